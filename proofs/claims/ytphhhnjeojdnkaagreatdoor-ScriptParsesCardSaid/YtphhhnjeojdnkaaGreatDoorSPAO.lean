/-
  slices.Grow and slices.Concat of bytes.
-/
import Derived.Test.YtphhhnjeojdnkaaGreatDoorSPAN
import Derived.Lib.AppendZerosOnto
import Derived.Test.YtphhhnjeojdnkaaGreatDoorSPAM
import Derived.Lib.ConvBytes
import Derived.Test.YtphhhnjeojdnkaaGreatDoorSPAA
import Derived.Deep.MidRow
import Derived.Laws.MakeOwn
import Derived.Test.YtphhhnjeojdnkaaGreatDoorSPAE
import Derived.KernelRfl
set_option linter.unusedSectionVars false
set_option linter.unusedVariables false
set_option linter.unusedSimpArgs false
set_option maxRecDepth 100000
set_option maxHeartbeats 8000000
namespace Go.Proofs.YtphhhnjeojdnkaaGreatDoor
open Go.RowKit
theorem wpList_appRun_ {ops : Array Oper} {rest : List Oper} {o : Oper} {a : Act} {Q : Exit -> Act -> World -> Prop} {s x : Operand} {t u : TypeId} {w w' : World} {v y v' : Value}
    (hgd : o.guard = none) (ho : o.op = .call { callee := .builtin .append, args := #[s, x], argTypes := #[t, u] }) (hsv : a.eval s = v) (hxv : a.eval x = y)
    (hr : ∀ ty, (Builtin.append_ #[t, u] ty #[v, y]).run Tryz.prog w = .ok v' w') (K : wpList Tryz.prog ops Q rest (a.put o.dst v') w') : wpList Tryz.prog ops Q (o :: rest) a w := by
  refine wpList_plain hgd fun K' hK => ?_
  unfold Oper.wp
  simp [execOp, ho, resolve, invoke, builtin, hsv, hxv, hr, Result.andThen]
  exact hK _ _ K
theorem bgrow (n : Nat) (w : World) (hs : n <= 1000000) :
    Calls Tryz.prog 145 #[.slice none 0 0, .int .i64 (n : Int)] w (Ret w (IsOwnB w.heap.size [])) := by
  have hn := hs
  have h1 : ¬ ((n : Int) < 0) := by omega
  by_cases h0 : n = 0
  · subst h0
    go_enter Tryz.func145, Tryz.ntmps145
    go_wp2
    go_ret
    exact ⟨_, rfl, Below.refl _ _, OwnSl.nil_ _ _ _ _⟩
  · have h4 : decide ((n : Int) > 0) = true := by rw [decide_eq_true_iff]; omega
    obtain ⟨i, hi, hz, hsz, hby⟩ := info_parts (P := Tryz.prog) (show (Tryz.prog.info? 5).map (fun i => (i.zero, i.size, i.bytes)) = some (some (.int .u8 0), 1, 1) by kernel_rfl)
    have hrz : ∀ ty, (Builtin.append_ #[22, 3] ty #[.slice none 0 0, .int .i64 (n : Int)]).run Tryz.prog w =
        .ok (.slice (some ⟨w.heap.size, 0, none⟩) n (grownCap w n 0 5)) (w.drew.alloc (.cells (#[] ++ Builtin.zeroCells (Value.int .u8 0).cells n ++ Builtin.zeroCells (Value.int .u8 0).cells (grownCap w n 0 5 - n)) 5)) := fun ty => by
      have h := Lib.run_append_grow_zeros w 22 3 ty 5 i (.int .u8 0) .i64 .i64 Tryz.underlying22 Tryz.underlying3 hi hz none 0 0 [] (run_firstCells_none w.drew i.size 0 0 0) n (by omega) (by omega) (by omega) (by omega) (by rw [hby]; omega) (by rw [hby]; exact growslice_fits (by omega) (by omega))
      rw [Nat.zero_add] at h
      exact h
    have hge : n <= grownCap w n 0 5 := grownCap_ge w _ _ _
    have hmx : grownCap w n 0 5 <= maxLen := grownCap_le_maxLen w n 0 5 (by unfold maxLen; omega)
    have hsize : ((#[] : Array Value) ++ Builtin.zeroCells (Value.int .u8 0).cells n ++ Builtin.zeroCells (Value.int .u8 0).cells (grownCap w n 0 5 - n)).size = grownCap w n 0 5 * 1 := by
      simp [Builtin.zeroCells, Value.cells]; omega
    generalize grownCap w n 0 5 = G at *
    generalize (#[] : Array Value) ++ Builtin.zeroCells (Value.int .u8 0).cells n ++ Builtin.zeroCells (Value.int .u8 0).cells (G - n) = Z at *
    have HS := Lib.hid hsize; have HM := Lib.hid hmx; have HG := Lib.hid hge
    have hG : G <= 9223372036854775807 := by unfold maxLen at hmx; omega
    have HRZ := Lib.hid hrz
    clear hsize hmx hi hz hsz hby hrz
    go_enter Tryz.func145, Tryz.ntmps145
    go_wp2_with (at_builtin; refine wpList_appRun_ (v := .slice none 0 0) (y := .int .i64 (n : Int)) rfl rfl rfl rfl HRZ.out ?_; simp only [Act.put, List.setIfInBounds_toArray, List.set_cons_zero, List.set_cons_succ])
    go_ret
    refine ⟨_, rfl, (Below.refl _ w).drew.trans ((Below.refl _ _).alloc (by simp) _), ?_⟩
    exact ⟨rfl, .inr ⟨w.heap.size, G, Z, rfl, Nat.le_refl _, heap_alloc_new _ _, Nat.zero_le _, HM.out, HS.out, by simp [Enc.all]⟩⟩
structure Part where
  A : Option Addr
  n : Nat
  c : Nat
  l : List UInt8
def Parts (w : World) (g : Nat) (ps : List Part) : Prop := ∀ (i : Nat) (p : Part), ps[i]? = some p -> w.cell? ⟨g, i, none⟩ = some (.slice p.A p.n p.c) ∧ Sl encB w p.A p.n p.c p.l
def flat (ps : List Part) : List UInt8 := ps.flatMap (·.l)
theorem Parts.mono {w w' : World} {g : Nat} {ps : List Part} (h : Parts w g ps) (hb : Below w.heap.size w w') : Parts w' g ps :=
  fun i p hi => ⟨cellKeep hb (h i p hi).1, (h i p hi).2.mono hb⟩
def LenRel (w : World) (ps : List Part) (s i : Value) (wr : World) : Prop :=
  ∃ k m : Nat, i = .int .i64 k ∧ s = .int .i64 m ∧ k <= ps.length ∧ w = wr ∧ m + (flat (ps.drop k)).length = (flat ps).length
def CatRel (B : Nat) (w : World) (ps : List Part) (v i : Value) (wr : World) : Prop :=
  ∃ (k : Nat) (acc : List UInt8), i = .int .i64 k ∧ k <= ps.length ∧ OwnB wr B v acc ∧ Below B w wr ∧ B <= wr.heap.size ∧ flat ps = acc ++ flat (ps.drop k)
theorem bconcat (ps : List Part) (g : Nat) (w : World) (hp : Parts w g ps) (hk : ps.length <= 1000) (hs : (flat ps).length <= 1000000) :
    Calls Tryz.prog 104 #[.slice (some ⟨g, 0, none⟩) ps.length ps.length] w (Ret w (IsOwnB w.heap.size (flat ps))) := by
  have HP := Lib.hid hp; have HS := Lib.hid hs; clear hp hs
  obtain ⟨N, hN⟩ : ∃ N, N = ps.length := ⟨_, rfl⟩
  rw [<- hN] at hk ⊢
  have HN := Lib.hid hN; have HK := Lib.hid hk
  have hN63 : N <= 9223372036854775800 := by omega
  clear hk hN
  go_enter Tryz.func104, Tryz.ntmps104
  go_wp2
  go_loopw [3, 11] (fun s i wr => LenRel w ps s i wr) (fun _ i _ => N - (intOf i).toNat)
  case atStart => exact ⟨0, 0, rfl, rfl, Nat.zero_le _, rfl, by simp⟩
  case round =>
    obtain ⟨k, m, rfl, rfl, hk', rfl, hs⟩ := hrel
    by_cases hlt : k < N
    · have hkl : k < ps.length := by have := HN.out; omega
      obtain ⟨p, hpk⟩ : ∃ p, ps[k]? = some p := ⟨_, List.getElem?_eq_getElem hkl⟩
      have hd : ps.drop k = p :: ps.drop (k + 1) := by rw [List.drop_eq_getElem_cons hkl]; congr 1; rw [List.getElem?_eq_getElem hkl] at hpk; exact Option.some.inj hpk
      obtain ⟨c0, hsl⟩ := HP.out k p hpk
      have hsum : m + (p.n + (flat (ps.drop (k + 1))).length) = (flat ps).length := by
        rw [hd] at hs; unfold flat at hs ⊢; rw [List.flatMap_cons, List.length_append, <- hsl.len] at hs; exact hs
      have hle : m + p.n <= 9223372036854775800 := by have := HS.out; omega
      have HSUM := Lib.hid hsum
      have hne : ¬ ((m : Int) + (p.n : Int) < 0) := by omega
      clear hsl hd hpk hs hsum hkl
      obtain ⟨A, n, c, l⟩ := p
      have hw : wrap64 ((m : Int) + (n : Int)) = (m : Int) + (n : Int) := by
        have h9 : m + n <= 9223372036854775800 := hle
        unfold wrap64; omega
      have hk1 := Lib.hid (show k + 1 <= ps.length by have := HN.out; omega); clear hk'
      go_wp2
      have HW := Lib.hid hw
      refine ⟨⟨k + 1, m + n, by simp, by first | (rw [HW.out]; simp) | simp, hk1.out, rfl, by have := HSUM.out; simp at this ⊢; omega⟩, ?_⟩
      simp [intOf]; omega
    · have hkN : k = N := by have := HN.out; omega
      subst hkN
      have hm : m = (flat ps).length := by rw [HN.out, List.drop_length] at hs; simpa [flat] using hs
      have hm6 : m <= 1000000 := by have := HS.out; omega
      have F := Lib.hid (bgrow m w hm6)
      have hm63 : m <= 9223372036854775800 := by omega
      have HM := Lib.hid hm
      clear hs hm6 hm
      go_wp2_with fail
      refine F.out.mono ?_
      rintro e w1 ⟨v1, rfl, hb1, ho1⟩
      have HB1 := Lib.hid hb1; have HO1 := Lib.hid ho1; have hsz := hb1.size
      clear hb1 ho1 F
      go_wp2
      go_loopw [6, 27] (fun v i wr => CatRel w.heap.size w ps v i wr) (fun _ i _ => k - (intOf i).toNat)
      case atStart => exact ⟨0, [], rfl, Nat.zero_le _, HO1.out, HB1.out, hsz, by simp⟩
      case round =>
        obtain ⟨r, acc, rfl, hr, ho, hb, hB, he⟩ := hrel
        by_cases hlr : r < k
        · have hrl : r < ps.length := by have := HN.out; omega
          obtain ⟨p, hpr⟩ : ∃ p, ps[r]? = some p := ⟨_, List.getElem?_eq_getElem hrl⟩
          have hd : ps.drop r = p :: ps.drop (r + 1) := by rw [List.drop_eq_getElem_cons hrl]; congr 1; rw [List.getElem?_eq_getElem hrl] at hpr; exact Option.some.inj hpr
          obtain ⟨c0, hsl⟩ := HP.out r p hpr
          have c1 : wr.cell? ⟨g, r, none⟩ = some (.slice p.A p.n p.c) := cellKeep hb c0
          have HE := Lib.hid (show flat ps = (acc ++ p.l) ++ flat (ps.drop (r + 1)) by rw [he, hd]; simp [flat])
          have hlen : acc.length + p.l.length <= 1000000000 := by
            have h1 := congrArg List.length HE.out
            have h2 := HS.out
            simp only [List.length_append] at h1
            omega
          have HLEN := Lib.hid hlen
          have HSL := Lib.hid (hsl.mono hb)
          have HO := Lib.hid ho; have HB := Lib.hid hb; have HR := Lib.hid (show r + 1 <= ps.length from hrl)
          clear hsl hd hpr he hlen ho hb c0 hrl hr
          obtain ⟨A, n, c, l⟩ := p
          go_wp2_with (at_builtin; refine wpList_appS (B := w.heap.size) (l := acc) infB rfl rfl Tryz.underlying22 rfl rfl HO.out HSL.out HLEN.out hB ?_; intro v2 w2 ho2 hg2 _; have HG := Lib.hid (HB.out.grown hg2 hB (fun q hq => (HO.out.own q hq).1)); have HO2 := Lib.hid ho2; have hB2 := Nat.le_trans hB hg2.size; clear ho2 hg2; simp only [Act.put, List.setIfInBounds_toArray, List.set_cons_zero, List.set_cons_succ])
          go_roundw
          case rel => exact ⟨r + 1, acc ++ l, by simp, HR.out, HO2.out, HG.out, hB2, HE.out⟩
          case measure => simp [intOf]; omega
        · have hre : flat ps = acc := by
            rw [he, List.drop_of_length_le (by have := HN.out; omega)]; simp [flat]
          have HRE := Lib.hid hre; have HO := Lib.hid ho; have HB := Lib.hid hb
          clear hre he ho hb
          go_wp2
          go_ret
          refine ⟨_, rfl, HB.out, ?_⟩
          rw [HRE.out]; exact HO.out
end Go.Proofs.YtphhhnjeojdnkaaGreatDoor

/-
  A region whose order is open: its first n operations walked once; what is left is handed on in the model's own words (a store, and pure operations beside it).
-/
namespace Go.Proofs.YtphhhnjeojdnkaaGreatDoor
open Go.RowKit
section
variable {P : Program} {ops : List Oper} {w0 : World} {a0 : Act} {Q : Exit -> Act -> World -> Prop}
end
end Go.Proofs.YtphhhnjeojdnkaaGreatDoor

/-
  A region whose order is open and in which two blocks are made at any time: they are two.
-/
namespace Go.Proofs.YtphhhnjeojdnkaaGreatDoor
open Go.RowKit
section
variable {P : Program} {ops : List Oper} {w0 : World} {a0 : Act} {Q : Exit -> Act -> World -> Prop}
end
end Go.Proofs.YtphhhnjeojdnkaaGreatDoor

/-
  A region whose order is open, its operations in a new order: the first n walked once, what is left handed on.
-/
namespace Go.Proofs.YtphhhnjeojdnkaaGreatDoor
open Go.RowKit
section
variable {P : Program} {ops : List Oper} {w0 : World} {a0 : Act} {Q : Exit -> Act -> World -> Prop}
end
end Go.Proofs.YtphhhnjeojdnkaaGreatDoor

/-
  A region whose order is open, in which one operation takes a part out of a tuple, and a store need not wait for it.
-/
namespace Go.Proofs.YtphhhnjeojdnkaaGreatDoor
open Go.RowKit
section
variable {P : Program} {ops : List Oper} {w0 : World} {a0 : Act} {Q : Exit -> Act -> World -> Prop}
theorem wp_store_to {o : Oper} {a : Act} {w w' : World} {K : Act -> World -> Prop} {ty : TypeId} {x y : Operand} {p v : Value} (ho : o.op = .store ty x y) (hd : o.dst = none) (hx : a.eval x = p) (hy : a.eval y = v) (e : (Instr.storeAt ty p v).run P w = .ok () w') (h : K a w') : o.wp P a w K Q := by
  unfold Oper.wp
  generalize a.eval = ρ at hx hy
  have : (execOp ρ o).run P w = .ok .skip w' := by simp [execOp, ho, hx, hy, e]
  rw [this]
  show K (a.put o.dst undef) w'
  rw [hd]; exact h
end
end Go.Proofs.YtphhhnjeojdnkaaGreatDoor

/-
  bytes.Writer.
-/
namespace Go.Proofs.YtphhhnjeojdnkaaGreatDoor
open Go.RowKit
structure Wrote (b : Nat) (r : Option Nat) (w w' : World) : Prop where
  os : w'.os = w.os
  tape : w'.tape = w.tape
  output : w'.output = w.output
  size : w.heap.size <= w'.heap.size
  block : ∀ k, k < w.heap.size -> k ≠ b -> some k ≠ r -> w'.heap[k]? = w.heap[k]?
theorem Wrote.below {b B : Nat} {r : Option Nat} {w w' : World} (h : Wrote b r w w') (hB : B <= w.heap.size) (hb : B <= b) (hr : ∀ q, r = some q -> B <= q) : Below B w w' :=
  ⟨h.os, h.tape, h.output, h.size, fun k hk => h.block k (by omega) (by omega) (fun e => by have := hr k e.symm; omega)⟩
def NewRow (w : World) (r r' : Option Nat) : Prop := r' = r ∨ ∃ q, r' = some q ∧ w.heap.size <= q
theorem Wrote.trans {b : Nat} {r r' : Option Nat} {w w1 w2 : World} (h : Wrote b r w w1) (k : Wrote b r' w1 w2) (hr : NewRow w r r') : Wrote b r w w2 :=
  ⟨k.os.trans h.os, k.tape.trans h.tape, k.output.trans h.output, Nat.le_trans h.size k.size, fun i hi h1 h2 => (k.block i (Nat.lt_of_lt_of_le hi h.size) h1 (by
    rcases hr with rfl | ⟨q, rfl, hq⟩
    · exact h2
    · intro e; have := Option.some.inj e; omega)).trans (h.block i hi h1 h2)⟩
theorem NewRow.trans {w w1 : World} {r r1 r2 : Option Nat} (h : NewRow w r r1) (hs : w.heap.size <= w1.heap.size) (k : NewRow w1 r1 r2) : NewRow w r r2 := by
  rcases k with rfl | ⟨q, e, hq⟩
  · exact h
  · exact .inr ⟨q, e, Nat.le_trans hs hq⟩
theorem Wrote.ofBelow {b : Nat} {r : Option Nat} {w w' : World} (h : Below w.heap.size w w') : Wrote b r w w' :=
  ⟨h.os, h.tape, h.output, h.size, fun k hk _ _ => h.block k hk⟩
theorem Wrote.cell {b : Nat} {r : Option Nat} {w w' : World} {a : Addr} {v : Value} (h : Wrote b r w w') (hc : w.cell? a = some v) (h1 : a.block ≠ b) (h2 : some a.block ≠ r) : w'.cell? a = some v :=
  (World.cell?_of_block (h.block a.block (World.block_lt_of_cell? w a hc) h1 h2)).trans hc
structure WAt (b : Nat) (r : Option Nat) (l : List UInt8) (w : World) : Prop where
  row : ∃ v, w.cell? ⟨b, 0, none⟩ = some v ∧ OwnB w 0 v l ∧ v.ownBlock = r
  ne : r ≠ some b
  open_ : w.frozen? ⟨b, 0, none⟩ = false
theorem WAt.mono {b : Nat} {r : Option Nat} {l : List UInt8} {w w' : World} (h : WAt b r l w) (hb : Below w.heap.size w w') : WAt b r l w' := by
  obtain ⟨v, h1, h2, h3⟩ := h.row
  exact ⟨⟨v, cellKeep hb h1, h2.mono hb, h3⟩, h.ne, (hb.frozen (p := ⟨b, 0, none⟩) (World.block_lt_of_cell? w _ h1)).trans h.open_⟩
theorem field_w {b : Nat} {w : World} : (Instr.fieldAt 96 (.pointer (some ⟨b, 0, none⟩)) 0).run Tryz.prog w = .ok (.pointer (some ⟨b, 0, none⟩)) w := by simp [go_sem]
theorem load_w {A : Option Addr} {n c b : Nat} {w0 w : World} (hb : Below w0.heap.size w0 w) (h1 : w0.cell? ⟨b, 0, none⟩ = some (.slice A n c)) : (Instr.loadAt 22 (.pointer (some ⟨b, 0, none⟩))).run Tryz.prog w = .ok (.slice A n c) w := by
  have c1 := cellKeep hb h1
  simp [go_sem, c1]
theorem entersBConcat : Enters Tryz.prog 104 := enters_of Tryz.func104 (by kernel_rfl) rfl
section
variable {P : Program} {ops : List Oper} {Fs : List VT} {w0 : World} {a0 : Act} {i : Nat} {d : Option Tmp} {ty : TypeId} {pos : String} {after : Array Edge} {g : Option (Nat × Bool)}
theorem Ob.nilV {x : Operand} {p : Addr} (hw : Wanted ops Fs w0 a0 i ⟨d, .nilCheck x, ty, pos, after, g⟩) (hx : Has ops Fs w0 a0 i ⟨d, .nilCheck x, ty, pos, after, g⟩ x (Is (.pointer (some p)))) : Ob P ops Fs w0 a0 i ⟨d, .nilCheck x, ty, pos, after, g⟩ (Is (.pointer (some p))) :=
  Ob.stay hw fun a w cx => ⟨.pointer (some p), by
    have h1 : a.eval x = .pointer (some p) := hx a w cx
    generalize a.eval = ρ at h1
    simp [execOp, h1], rfl⟩
end
theorem wpList_store {P : Program} {Q : Exit -> Act -> World -> Prop} {ops : Array Oper} {rest : List Oper} {o : Oper} {a : Act} {w w' : World} {ty : TypeId} {x y : Operand} {p v : Value} (hg : o.guard = none) (ho : o.op = .store ty x y) (hd : o.dst = none) (hx : a.eval x = p) (hy : a.eval y = v) (e : (Instr.storeAt ty p v).run P w = .ok () w') (h : wpList P ops Q rest a w') : wpList P ops Q (o :: rest) a w :=
  wpList_plain hg fun _ hK => wp_store_to ho hd hx hy e (hK _ _ h)
theorem wpList_nilc {P : Program} {Q : Exit -> Act -> World -> Prop} {ops : Array Oper} {rest : List Oper} {o : Oper} {a : Act} {w : World} {x : Operand} {d : Tmp} {p : Addr} (hg : o.guard = none) (ho : o.op = .nilCheck x) (hd : o.dst = some d) (hx : a.eval x = .pointer (some p)) (h : wpList P ops Q rest (a.put (some d) (.pointer (some p))) w) : wpList P ops Q (o :: rest) a w := by
  refine wpList_plain hg fun K hK => ?_
  unfold Oper.wp
  generalize a.eval = ρ at hx
  have : (execOp ρ o).run P w = .ok (.value (.pointer (some p))) w := by simp [execOp, ho, hx]
  rw [this]
  show K (a.put o.dst _) w
  rw [hd]; exact hK _ _ h
theorem wpList_field {P : Program} {Q : Exit -> Act -> World -> Prop} {ops : Array Oper} {rest : List Oper} {o : Oper} {a : Act} {w : World} {x : Operand} {d : Tmp} {p r : Value} {ty : TypeId} {f : Nat} (hg : o.guard = none) (ho : o.op = .fieldAddr ty x f) (hd : o.dst = some d) (hx : a.eval x = p) (e : (Instr.fieldAt ty p f).run P w = .ok r w) (h : wpList P ops Q rest (a.put (some d) r) w) : wpList P ops Q (o :: rest) a w := by
  refine wpList_plain hg fun K hK => ?_
  unfold Oper.wp
  generalize a.eval = ρ at hx
  have : (execOp ρ o).run P w = .ok (.value r) w := by simp [execOp, ho, hx, e]
  rw [this]
  show K (a.put o.dst _) w
  rw [hd]; exact hK _ _ h
theorem Wrote.set_ {b : Nat} {r : Option Nat} {w w' : World} (h : Wrote b r w w') (u : Value) : Wrote b r w (w'.setCell ⟨b, 0, none⟩ u) :=
  h.trans (r' := r) ⟨rfl, rfl, rfl, by simp [World.setCell], fun k _ hn _ => Below.heap_setCell _ _ _ _ hn⟩ (.inl rfl)
theorem setCell_grown {b : Nat} {w : World} {u : Value} : w.grownBy (w.setCell ⟨b, 0, none⟩ u) (some b) :=
  ⟨rfl, rfl, rfl, by simp [World.setCell], fun k _ hn => Below.heap_setCell _ _ _ _ (fun e => hn (congrArg some e))⟩
def WPost (b : Nat) (r : Option Nat) (l : List UInt8) (w : World) (e : Ending) (w' : World) : Prop :=
  ∃ v r', e = .returned v ∧ Wrote b r w w' ∧ WAt b r' l w' ∧ NewRow w r r'
theorem wwrite (b g : Nat) (r : Option Nat) (l : List UInt8) (ps : List Part) (w : World) (hw : WAt b r l w) (hp : Parts w g ps) (hk : ps.length <= 1000) (hs : l.length + (flat ps).length <= 1000000) :
    Calls Tryz.prog 73 #[.pointer (some ⟨b, 0, none⟩), .slice (some ⟨g, 0, none⟩) ps.length ps.length] w (WPost b r (l ++ flat ps) w) := by
  obtain ⟨⟨v, c0, ho, hr⟩, hne, hf⟩ := hw
  obtain ⟨A, c, rfl, hsl⟩ := OwnSl.sl ho
  have F : ∀ w1, Below w.heap.size w w1 -> Calls Tryz.prog 104 #[.slice (some ⟨g, 0, none⟩) ps.length ps.length] w1 (Ret w1 (IsBytes (flat ps))) := fun w1 hb1 => (bconcat ps g w1 (hp.mono hb1) hk (by omega)).mono fun _ _ ⟨v, e, hb, hf⟩ => ⟨v, e, hb, IsOwn.sl hf⟩
  have FF := Lib.hid F; have HO := Lib.hid ho; have HS := Lib.hid hs; have HR := Lib.hid hr; have HF := Lib.hid hf; have C0 := Lib.hid c0; have HNE := Lib.hid hne
  clear F ho hs hsl hp hk hr hf c0 hne
  generalize ps.length = N at *
  generalize flat ps = ks at *
  generalize hL : l.length = L at *
  go_enter Tryz.func73, Tryz.ntmps73
  go_wp2_with fail
  refine wp_region_any mixed ?_
  refine take_pure (i := 0) rfl rfl (by kernel_rfl) (fun _ _ _ h => h) (v := .pointer (some ⟨b, 0, none⟩)) (fun w => by simp [execOp, Act.eval]) ?_
  simp only [Act.put, List.setIfInBounds_toArray, List.set_cons_zero, List.set_cons_succ]
  refine wp_left [1, 2, 3, 4, 5, 6, 7, 8, 9, 10] 6 (by kernel_rfl) (by kernel_rfl) (by kernel_rfl) (by kernel_rfl) ?_
  refine MDerT.step (Ob.move Wanted.free Has.oldIs) ?_
  refine MDerT.step (Ob.nilV Wanted.free (Has.new 0 0)) ?_
  refine MDerT.step (Ob.fieldV Wanted.free (Has.new 1 0) (fun w1 => field_w)) ?_
  refine MDerT.step (Ob.loadV Wanted.free (Has.new 2 0) (fun w1 hb1 => load_w (Below.ofDrew hb1) C0.out)) ?_
  refine MDerT.step (Ob.move Wanted.free Has.oldIs) ?_
  refine MDerT.step (Ob.call1V Wanted.free entersBConcat (Has.new 4 0) (fun w1 hb1 => FF.out w1 (Below.ofDrew hb1))) ?_
  intro wE hE
  change EndM _ [some 7, some 8, some 9, some 10, some 11, some 12] _ _ _
  simp only [EndM, List.reverse_cons, List.reverse_nil, List.nil_append, List.cons_append]
  iterate 5 (rintro _ rfl)
  rintro _ ⟨A5, n5, c5, rfl, d5⟩
  simp only [Act.put, List.setIfInBounds_toArray, List.set_cons_zero, List.set_cons_succ]
  replace hE := Below.ofDrew hE
  have hsz := hE.size
  refine wpList_appS (B := 0) (v := .slice A L c) (l := l) infB rfl rfl Tryz.underlying22 rfl rfl (HO.out.mono hE) d5 (by have := HS.out; omega) (Nat.zero_le _) ?_
  intro v' w' hr' hg' hnb
  obtain ⟨A9, c9, rfl, d9⟩ := OwnSl.sl hr'
  have hbs : b < w.heap.size := World.block_lt_of_cell? w _ C0.out
  have hro : (Value.slice A L c).ownBlock = r := HR.out
  rw [hro] at hg' hnb
  have w1 : Wrote b r w w' := ⟨hg'.os.trans hE.os, hg'.tape.trans hE.tape, hg'.output.trans hE.output, Nat.le_trans hE.size hg'.size, fun k hk h1 h2 => (hg'.block k (by omega) h2).trans (hE.block k hk)⟩
  have hbr : some b ≠ r := fun e => HNE.out e.symm
  have x1 : w'.cell? ⟨b, 0, none⟩ = some (.slice A L c) := hg'.cell (cellKeep hE C0.out) hbr
  have fz : w'.frozen? ⟨b, 0, none⟩ = false := (World.frozen?_of_block (a := ⟨b, 0, none⟩) ((hg'.block b (by omega) hbr).trans (hE.block b hbs))).trans HF.out
  have W1 := Lib.hid w1; have HR' := Lib.hid hr'; have HNB := Lib.hid hnb
  clear w1 hr' hnb hg' d9 d5
  change wpList _ _ _ _ (Act.put _ (some 13) (.slice A9 (l ++ ks).length c9)) w'
  simp only [Act.put, List.setIfInBounds_toArray, List.set_cons_zero, List.set_cons_succ]
  generalize hL2 : (l ++ ks).length = L2 at *
  refine wpList_nilc (d := 14) (p := ⟨b, 0, none⟩) rfl rfl rfl rfl ?_
  simp only [Act.put, List.setIfInBounds_toArray, List.set_cons_zero, List.set_cons_succ]
  refine wpList_field (d := 15) (r := .pointer (some ⟨b, 0, none⟩)) rfl rfl rfl rfl field_w ?_
  simp only [Act.put, List.setIfInBounds_toArray, List.set_cons_zero, List.set_cons_succ]
  refine wpList_store (p := .pointer (some ⟨b, 0, none⟩)) (v := .slice A9 L2 c9) (w' := w'.setCell ⟨b, 0, none⟩ (.slice A9 L2 c9)) rfl rfl rfl rfl rfl (by simp [go_sem, x1, fz]) ?_
  refine wpList_nil ?_
  generalize HHW2 : w'.setCell ⟨b, 0, none⟩ (.slice A9 L2 c9) = wS
  have HW2 := Lib.hid HHW2; have X1 := Lib.hid x1; have FZ := Lib.hid fz
  clear HHW2 x1 fz
  go_wp2
  refine bodyPost_end (v := .tuple #[]) (by simp [results, Tryz.results73]) rfl ?_
  rw [<- HW2.out]
  have hnr : (Value.slice A9 L2 c9).ownBlock ≠ some b := by
    rcases HNB.out with e | e
    · rw [e]; exact HNE.out
    · rw [e]; intro e2; have := Option.some.inj e2; have := hE.size; omega
  refine ⟨_, (Value.slice A9 L2 c9).ownBlock, rfl, W1.out.set_ _, ⟨⟨.slice A9 L2 c9, cell_set X1.out, ?_, rfl⟩, hnr, ?_⟩, ?_⟩
  · exact OwnSl.grown HR'.out setCell_grown (.inr hnr)
  · exact (World.frozen?_setCell _ _ _ _).trans FZ.out
  · rcases HNB.out with e | e
    · exact .inl e
    · exact .inr ⟨_, e, hE.size⟩
end Go.Proofs.YtphhhnjeojdnkaaGreatDoor

/-
  The reader of a script: a byte.
-/
namespace Go.Proofs.YtphhhnjeojdnkaaGreatDoor
open Go.RowKit
def headB (l : List UInt8) : Nat := (l.headD 0).toNat
theorem Sl.setN {α : Type} {e : Enc α} {w : World} {A : Option Addr} {n c N o : Nat} {l : List α} {u : Value} (h : Sl e w A n c l) (hn : ∀ a, A = some a -> a.block ≠ N) : Sl e (w.setCell ⟨N, o, none⟩ u) A n c l :=
  ⟨h.len, h.cap, h.max, h.nil, fun i x hi => by
    obtain ⟨b, o', rfl, hlt, h1⟩ := h.cell i x hi
    have hne : b ≠ N := hn _ rfl
    exact ⟨b, o', rfl, by rw [World.size_setCell]; exact hlt, fun j v hj => cell_far (fun e => hne (congrArg Addr.block e).symm) (h1 j v hj)⟩⟩
theorem Sl.tail {w : World} {b o n c : Nat} {l : List UInt8} (h : Sl encB w (some ⟨b, o, none⟩) n c l) : Sl encB w (some ⟨b, o + 1, none⟩) (n - 1) (c - 1) l.tail := by
  refine ⟨by rw [List.length_tail, <- h.len], by have := h.cap; omega, by have := h.max; omega, (fun e => nomatch e), fun i x hi => ?_⟩
  rw [List.getElem?_tail] at hi
  obtain ⟨b', o', e, hlt, h1⟩ := h.cell _ x hi
  cases e
  refine ⟨b, o + 1, rfl, hlt, fun j u hj => ?_⟩
  have := h1 j u hj
  have e2 : o + (i + 1) * encB.z + j = o + 1 + i * encB.z + j := by simp [encB]; omega
  rw [e2] at this
  exact this
theorem Sl.gone {w : World} {b o n : Nat} {l : List UInt8} (h : Sl encB w (some ⟨b, o, none⟩) n 1 l) : Sl encB w (some ⟨b, o, none⟩) (n - 1) 0 l.tail := by
  have hn : n <= 1 := h.cap
  have hl : l.tail = [] := List.eq_nil_of_length_eq_zero (by rw [List.length_tail, <- h.len]; omega)
  rw [hl]
  exact ⟨by simp; omega, by omega, by unfold maxLen; omega, fun _ => rfl, fun i x hi => by simp at hi⟩
theorem headB_of {l : List UInt8} {x : UInt8} (h : l[0]? = some x) : wrap64 (x.toNat : Int) = (headB l : Nat) := by
  cases l with
  | nil => simp at h
  | cons y l =>
    simp at h; subst h
    have := y.toNat_lt
    rw [IntWalk.wrap64_in _ (by omega)]; rfl
end Go.Proofs.YtphhhnjeojdnkaaGreatDoor

/-
  Names of one letter: strings.Trim, strings.Contains.
-/
namespace Go.Proofs.YtphhhnjeojdnkaaGreatDoor
open Go.RowKit
def StaysS (w : World) (v : Value) (e : Ending) (w' : World) : Prop := e = .returned v ∧ w' = w
theorem trimL119 (w : World) : Calls Tryz.prog 132 #[strV [119], .int .u8 32] w (StaysS w (strV [119])) := by
  go_enter Tryz.func132, Tryz.ntmps132
  go_wp2
  refine wp_loop_rounds 1 ?_
  rw [rounds_succ]
  go_wp2
  go_ret
  exact ⟨rfl, rfl⟩
theorem trimR119 (w : World) : Calls Tryz.prog 133 #[strV [119], .int .u8 32] w (StaysS w (strV [119])) := by
  go_enter Tryz.func133, Tryz.ntmps133
  go_wp2
  refine wp_loop_rounds 1 ?_
  rw [rounds_succ]
  go_wp2
  go_ret
  exact ⟨rfl, rfl⟩
theorem contains119 (w : World) : Calls Tryz.prog 100 #[strV [119], strV [32, 32]] w (StaysS w (.bool false)) := by
  go_enter Tryz.func100, Tryz.ntmps100
  go_wp2
  go_ret
  exact ⟨rfl, rfl⟩
theorem trimL120 (w : World) : Calls Tryz.prog 132 #[strV [120], .int .u8 32] w (StaysS w (strV [120])) := by
  go_enter Tryz.func132, Tryz.ntmps132
  go_wp2
  refine wp_loop_rounds 1 ?_
  rw [rounds_succ]
  go_wp2
  go_ret
  exact ⟨rfl, rfl⟩
theorem trimR120 (w : World) : Calls Tryz.prog 133 #[strV [120], .int .u8 32] w (StaysS w (strV [120])) := by
  go_enter Tryz.func133, Tryz.ntmps133
  go_wp2
  refine wp_loop_rounds 1 ?_
  rw [rounds_succ]
  go_wp2
  go_ret
  exact ⟨rfl, rfl⟩
theorem contains120 (w : World) : Calls Tryz.prog 100 #[strV [120], strV [32, 32]] w (StaysS w (.bool false)) := by
  go_enter Tryz.func100, Tryz.ntmps100
  go_wp2
  go_ret
  exact ⟨rfl, rfl⟩
theorem trimL121 (w : World) : Calls Tryz.prog 132 #[strV [121], .int .u8 32] w (StaysS w (strV [121])) := by
  go_enter Tryz.func132, Tryz.ntmps132
  go_wp2
  refine wp_loop_rounds 1 ?_
  rw [rounds_succ]
  go_wp2
  go_ret
  exact ⟨rfl, rfl⟩
theorem trimR121 (w : World) : Calls Tryz.prog 133 #[strV [121], .int .u8 32] w (StaysS w (strV [121])) := by
  go_enter Tryz.func133, Tryz.ntmps133
  go_wp2
  refine wp_loop_rounds 1 ?_
  rw [rounds_succ]
  go_wp2
  go_ret
  exact ⟨rfl, rfl⟩
theorem contains121 (w : World) : Calls Tryz.prog 100 #[strV [121], strV [32, 32]] w (StaysS w (.bool false)) := by
  go_enter Tryz.func100, Tryz.ntmps100
  go_wp2
  go_ret
  exact ⟨rfl, rfl⟩
theorem trimL122 (w : World) : Calls Tryz.prog 132 #[strV [122], .int .u8 32] w (StaysS w (strV [122])) := by
  go_enter Tryz.func132, Tryz.ntmps132
  go_wp2
  refine wp_loop_rounds 1 ?_
  rw [rounds_succ]
  go_wp2
  go_ret
  exact ⟨rfl, rfl⟩
theorem trimR122 (w : World) : Calls Tryz.prog 133 #[strV [122], .int .u8 32] w (StaysS w (strV [122])) := by
  go_enter Tryz.func133, Tryz.ntmps133
  go_wp2
  refine wp_loop_rounds 1 ?_
  rw [rounds_succ]
  go_wp2
  go_ret
  exact ⟨rfl, rfl⟩
theorem contains122 (w : World) : Calls Tryz.prog 100 #[strV [122], strV [32, 32]] w (StaysS w (.bool false)) := by
  go_enter Tryz.func100, Tryz.ntmps100
  go_wp2
  go_ret
  exact ⟨rfl, rfl⟩
end Go.Proofs.YtphhhnjeojdnkaaGreatDoor

/-
  bytes.Writer: numbers, strings, bytes; what was written.
-/
namespace Go.Proofs.YtphhhnjeojdnkaaGreatDoor
open Go.RowKit
theorem WPost.lift {b : Nat} {r : Option Nat} {l : List UInt8} {w w1 w2 : World} {e : Ending} (hb : Below w.heap.size w w1) (h : WPost b r l w1 e w2) : WPost b r l w e w2 := by
  obtain ⟨v, r', h1, h2, h3, h4⟩ := h
  refine ⟨v, r', h1, (Wrote.ofBelow hb).trans h2 (.inl rfl), h3, ?_⟩
  rcases h4 with h4 | ⟨q, h4, h5⟩
  · exact .inl h4
  · exact .inr ⟨q, h4, Nat.le_trans hb.size h5⟩
theorem flat_one (A : Option Addr) (n c : Nat) (l : List UInt8) : flat [⟨A, n, c, l⟩] = l := by simp [flat]
theorem Parts.one {w : World} {g n c : Nat} {A : Option Addr} {l : List UInt8} (h0 : w.cell? ⟨g, 0, none⟩ = some (.slice A n c)) (h : Sl encB w A n c l) : Parts w g [⟨A, n, c, l⟩] := by
  intro i p hi
  cases i with
  | zero => simp at hi; subst hi; exact ⟨h0, h⟩
  | succ i => simp at hi
theorem wnum (b : Nat) (r : Option Nat) (l : List UInt8) (n : Nat) (hn : n < 18446744073709551616) (w : World) (hw : WAt b r l w) (hs : l.length <= 900000) :
    Calls Tryz.prog 42 #[.pointer (some ⟨b, 0, none⟩), .int .u64 n] w (WPost b r (l ++ numB n) w) := by
  have C := Lib.hid (cnumber n hn w)
  have HW := Lib.hid hw; have HS := Lib.hid hs; have HT := Lib.hid (numB_ten hn)
  clear hw hs hn
  go_enter Tryz.func42, Tryz.ntmps42
  go_wp2_with fail
  refine C.out.mono ?_
  rintro e w1 ⟨v1, rfl, hb1, ho1⟩
  obtain ⟨A1, c1, rfl, hs1⟩ := OwnSl.sl ho1
  generalize hL : (numB n).length = L at *
  have HS1 := Lib.hid hs1; have HB1 := Lib.hid hb1
  clear ho1 hs1 hb1 C
  go_wp2_with fail
  have hp := Parts.one (w := w1.alloc (.cells #[.slice A1 L c1] 22)) (g := w1.heap.size) (n := L) (c := c1) (A := A1) (l := numB n) (by simp [go_sem]) (HS1.out.mono (by go_grown))
  have hb2 : Below w.heap.size w (w1.alloc (.cells #[.slice A1 L c1] 22)) := HB1.out.alloc HB1.out.size _
  have D := wwrite b w1.heap.size r l [⟨A1, L, c1, numB n⟩] _ (HW.out.mono hb2) hp (by simp) (by rw [flat_one]; have := HS.out; have := HT.out; omega)
  rw [flat_one] at D
  have HB2 := Lib.hid hb2
  refine D.mono ?_
  clear D hp hb2
  rintro e w2 ⟨v2, r', rfl, h1, h2, h3⟩
  have HP := Lib.hid (WPost.lift HB2.out ⟨v2, r', rfl, h1, h2, h3⟩)
  clear h1 h2 h3
  go_wp2
  refine bodyPost_end (v := .tuple #[]) (by simp [results, Tryz.results42]) rfl ?_
  obtain ⟨_, r1, _, g1, g2, g3⟩ := HP.out
  exact ⟨_, r1, rfl, g1, g2, g3⟩
theorem wput (b : Nat) (r : Option Nat) (l k : List UInt8) (A : Option Addr) (n c : Nat) (w : World) (hk : Sl encB w A n c k) (hw : WAt b r l w) (hs : l.length + k.length <= 1000000) :
    Calls Tryz.prog 45 #[.pointer (some ⟨b, 0, none⟩), .slice A n c] w (WPost b r (l ++ k) w) := by
  have HW := Lib.hid hw; have HS := Lib.hid hs; have HS1 := Lib.hid hk
  clear hw hs hk
  go_enter Tryz.func45, Tryz.ntmps45
  go_wp2_with fail
  have hp := Parts.one (w := w.alloc (.cells #[.slice A n c] 22)) (g := w.heap.size) (n := n) (c := c) (A := A) (l := k) (by simp [go_sem]) (HS1.out.mono (by go_grown))
  have hb2 : Below w.heap.size w (w.alloc (.cells #[.slice A n c] 22)) := (Below.refl _ _).alloc (Nat.le_refl _) _
  have D := wwrite b w.heap.size r l [⟨A, n, c, k⟩] _ (HW.out.mono hb2) hp (by simp) (by rw [flat_one]; exact HS.out)
  rw [flat_one] at D
  have HB2 := Lib.hid hb2
  refine D.mono ?_
  clear D hp hb2
  rintro e w2 ⟨v2, r', rfl, h1, h2, h3⟩
  have HP := Lib.hid (WPost.lift HB2.out ⟨v2, r', rfl, h1, h2, h3⟩)
  clear h1 h2 h3
  go_wp2
  refine bodyPost_end (v := .tuple #[]) (by simp [results, Tryz.results45]) rfl ?_
  obtain ⟨_, r1, _, g1, g2, g3⟩ := HP.out
  exact ⟨_, r1, rfl, g1, g2, g3⟩
theorem wbytes (b : Nat) (r : Option Nat) (l : List UInt8) (w : World) (hw : WAt b r l w) (hs : l.length <= 1000000) :
    Calls Tryz.prog 47 #[.pointer (some ⟨b, 0, none⟩)] w (Ret w (IsOwnB w.heap.size l)) := by
  obtain ⟨⟨v, c0, ho, hr⟩, hne, hf⟩ := hw
  obtain ⟨A, c, rfl, hsl⟩ := OwnSl.sl ho
  have C := Lib.hid (bclone A l.length c l w hsl hs)
  clear ho hsl hr hf hne hs
  generalize l.length = L at *
  go_enter Tryz.func47, Tryz.ntmps47
  go_wp2_with (go_at_call 77; ((with_reducible refine C.out.mono ?_); rintro e w1 ⟨v1, rfl, hb1, ho1⟩))
  go_ret
  exact ⟨_, rfl, hb1, ho1⟩
theorem wlen (b : Nat) (r : Option Nat) (l : List UInt8) (w : World) (hw : WAt b r l w) (hs : l.length <= 1000000) :
    Calls Tryz.prog 48 #[.pointer (some ⟨b, 0, none⟩)] w (Ret w (IsI l.length)) := by
  have C := Lib.hid (wbytes b r l w hw hs)
  clear hw hs
  go_enter Tryz.func48, Tryz.ntmps48
  go_wp2_with fail
  refine C.out.mono ?_
  rintro e w1 ⟨v1, rfl, hb1, ho1⟩
  obtain ⟨A1, c1, rfl, hs1⟩ := OwnSl.sl ho1
  clear hs1 ho1 C
  go_wp2
  go_ret
  exact retI rfl hb1
end Go.Proofs.YtphhhnjeojdnkaaGreatDoor

/-
  bytes.Writer: strings.
-/
namespace Go.Proofs.YtphhhnjeojdnkaaGreatDoor
open Go.RowKit
theorem bytesWorld_below (w : World) (l : List UInt8) : Below w.heap.size w (Lib.bytesWorld w 5 ⟨⟨l⟩⟩) :=
  ⟨rfl, rfl, rfl, by rw [Lib.bytesWorld_size]; omega, fun k hk => Lib.bytesWorld_at_old w _ _ k hk⟩
theorem bytesWorld_sl (w : World) (l : List UInt8) (hl : l.length <= 1000000) : Sl encB (Lib.bytesWorld w 5 ⟨⟨l⟩⟩) (some ⟨w.heap.size, 0, none⟩) l.length (grownCap w l.length 0 5) l := by
  refine ⟨rfl, grownCap_ge w _ _ _, grownCap_le_maxLen w _ _ _ (Nat.le_trans hl (by unfold maxLen; omega)), (fun e => nomatch e), fun i x hi => ⟨w.heap.size, 0, rfl, by rw [Lib.bytesWorld_size]; omega, fun j u hj => ?_⟩⟩
  have hil : i < l.length := (List.getElem?_eq_some_iff.1 hi).1
  have h := Lib.bytesWorld_cell w 5 ⟨⟨l⟩⟩ i hil
  cases j with
  | zero =>
    simp [encB] at hj
    have e : (0 + i * encB.z + 0) = i := by simp [encB]
    rw [e, h, <- hj]
    have e2 : l.getD i 0 = x := by rw [List.getD_eq_getElem?_getD, hi]; rfl
    simp [List.getD_eq_getElem?_getD, hi]
  | succ j => simp [encB] at hj
theorem conv_str (w : World) (l : List UInt8) : (convert 9 22 (strV l)).run Tryz.prog w = .ok (.slice (some ⟨w.heap.size, 0, none⟩) l.length (grownCap w l.length 0 5)) (Lib.bytesWorld w 5 ⟨⟨l⟩⟩) :=
  Lib.run_convert_string_bytes w _ _ 5 ⟨⟨l⟩⟩ Tryz.underlying9 Tryz.underlying22 Tryz.underlying5
theorem Parts.two {w : World} {g n c n' c' : Nat} {A A' : Option Addr} {l l' : List UInt8} (h0 : w.cell? ⟨g, 0, none⟩ = some (.slice A n c)) (h1 : w.cell? ⟨g, 1, none⟩ = some (.slice A' n' c')) (h : Sl encB w A n c l) (h' : Sl encB w A' n' c' l') : Parts w g [⟨A, n, c, l⟩, ⟨A', n', c', l'⟩] := by
  intro i p hi
  match i with
  | 0 => simp at hi; subst hi; exact ⟨h0, h⟩
  | 1 => simp at hi; subst hi; exact ⟨h1, h'⟩
  | i + 2 => simp at hi
theorem flat_two (A A' : Option Addr) (n c n' c' : Nat) (l l' : List UInt8) : flat [⟨A, n, c, l⟩, ⟨A', n', c', l'⟩] = l ++ l' := by simp [flat]
theorem wstr (b : Nat) (r : Option Nat) (l k : List UInt8) (w : World) (hw : WAt b r l w) (hs : l.length + k.length <= 900000) :
    Calls Tryz.prog 43 #[.pointer (some ⟨b, 0, none⟩), strV k] w (WPost b r (l ++ strB k) w) := by
  have hk : k.length < 18446744073709551616 := Nat.lt_of_le_of_lt (show k.length <= 900000 by omega) (by decide)
  have C := Lib.hid (cnumberW k.length hk w)
  have HW := Lib.hid hw; have HS := Lib.hid hs; have HT := Lib.hid (numB_ten hk)
  clear hw hs hk
  go_enter Tryz.func43, Tryz.ntmps43
  go_wp2_with fail
  refine C.out.mono ?_
  rintro e w1 ⟨v1, rfl, hb1, ho1⟩
  obtain ⟨A1, c1, rfl, hs1⟩ := OwnSl.sl ho1
  generalize hL : (numB k.length).length = L at *
  have HS1 := Lib.hid hs1; have HB1 := Lib.hid hb1
  clear ho1 hs1 hb1 C
  go_wp2_with fail
  rw [conv_str]
  have hb2 := bytesWorld_below w1 k
  have hs2 := bytesWorld_sl w1 k (by have := HS.out; omega)
  generalize Lib.bytesWorld w1 5 ⟨⟨k⟩⟩ = w2 at *
  generalize grownCap w1 k.length 0 5 = G at *
  have HB2 := Lib.hid (HB1.out.le hb2); have HS2 := Lib.hid hs2; have HS1' := Lib.hid (HS1.out.mono hb2)
  clear hs2 hb2
  go_wp2_with fail
  have hp := Parts.two (w := w2.alloc (.cells #[.slice A1 L c1, .slice (some ⟨w1.heap.size, 0, none⟩) k.length G] 22)) (g := w2.heap.size) (by simp [go_sem]) (by simp [go_sem]) (HS1'.out.mono (by go_grown)) (HS2.out.mono (by go_grown))
  have hb3 : Below w.heap.size w (w2.alloc (.cells #[.slice A1 L c1, .slice (some ⟨w1.heap.size, 0, none⟩) k.length G] 22)) := HB2.out.alloc HB2.out.size _
  have D := wwrite b w2.heap.size r l _ _ (HW.out.mono hb3) hp (by simp) (by rw [flat_two, List.length_append]; have := HS.out; have := HT.out; omega)
  rw [flat_two] at D
  have HB3 := Lib.hid hb3
  refine D.mono ?_
  clear D hp hb3
  rintro e w3 ⟨v2, r', rfl, h1, h2, h3⟩
  have HP := Lib.hid (WPost.lift HB3.out ⟨v2, r', rfl, h1, h2, h3⟩)
  clear h1 h2 h3
  go_wp2
  refine bodyPost_end (v := .tuple #[]) (by simp [results, Tryz.results43]) rfl ?_
  obtain ⟨_, r1, _, g1, g2, g3⟩ := HP.out
  exact ⟨_, r1, rfl, g1, g2, g3⟩
end Go.Proofs.YtphhhnjeojdnkaaGreatDoor

/-
  Names of one letter: strings.Trim, names.Item, names.Key.
-/
namespace Go.Proofs.YtphhhnjeojdnkaaGreatDoor
open Go.RowKit
section
variable {P : Program} {ops : List Oper} {Fs : List VT} {w0 : World} {a0 : Act} {i : Nat} {d : Option Tmp} {ty : TypeId} {pos : String} {after : Array Edge} {g : Option (Nat × Bool)}
theorem Ob.strIdx {x y : Operand} {p q r : Value} {t : TypeId} (hw : Wanted ops Fs w0 a0 i ⟨d, .index t x y, ty, pos, after, g⟩) (hx : Has ops Fs w0 a0 i ⟨d, .index t x y, ty, pos, after, g⟩ x (Is p)) (hy : Has ops Fs w0 a0 i ⟨d, .index t x y, ty, pos, after, g⟩ y (Is q))
    (h : ∀ w, (Instr.index t p q).run P w = .ok r w) : Ob P ops Fs w0 a0 i ⟨d, .index t x y, ty, pos, after, g⟩ (Is r) :=
  Ob.stay hw fun a w cx => ⟨r, by
    have h1 : a.eval x = p := hx a w cx
    have h1' : a.eval y = q := hy a w cx
    have h2 := h w
    generalize a.eval = ρ at h1 h1'
    simp [execOp, h1, h1', h2], rfl⟩
end
theorem str_idx (w : World) : (Instr.index 9 (strV [32]) (.int .i64 0)).run Tryz.prog w = .ok (.int .u8 32) w := by
  simp [go_sem]
  rfl
theorem entersTrimL : Enters Tryz.prog 132 := enters_of Tryz.func132 (by kernel_rfl) rfl
theorem entersTrimR : Enters Tryz.prog 133 := enters_of Tryz.func133 (by kernel_rfl) rfl
theorem StaysS.ret {w w' : World} {v : Value} {e : Ending} (h : StaysS w v e w') : Ret w (Is v) e w' := by
  obtain ⟨rfl, rfl⟩ := h
  exact ⟨v, rfl, Below.refl _ _, rfl⟩
theorem trim119 (w : World) : Calls Tryz.prog 99 #[strV [119], strV [32]] w (Ret w (Is (strV [119]))) := by
  go_enter Tryz.func99, Tryz.ntmps99
  go_wp2_with fail
  refine wp_region_M mixed (by kernel_rfl) ?_
  refine MDerR.step (Ob.move Wanted.free Has.oldIs) ?_
  refine MDerR.step (Ob.move Wanted.free Has.oldIs) ?_
  refine MDerR.step (Ob.strIdx Wanted.free (Has.new 1 0) (Has.cst _) (fun w1 => str_idx w1)) ?_
  refine MDerR.step (Ob.call2V Wanted.free entersTrimR (Has.new 0 2) (Has.new 2 0) (fun w1 hb1 => (trimR119 w1).mono fun _ _ h => StaysS.ret h)) ?_
  refine MDerR.step (Ob.move Wanted.free Has.oldIs) ?_
  refine MDerR.step (Ob.strIdx Wanted.free (Has.new 4 0) (Has.cst _) (fun w1 => str_idx w1)) ?_
  refine MDerR.step (Ob.call2V Wanted.free entersTrimL (Has.new 3 2) (Has.new 5 0) (fun w1 hb1 => (trimL119 w1).mono fun _ _ h => StaysS.ret h)) ?_
  refine MDerR.step (Ob.assign Wanted.free (Has.new 6 0)) ?_
  simp only [MDerR, dstsOf, List.map, EndM, List.reverse_cons, List.reverse_nil, List.nil_append, List.cons_append]
  intro wE hE
  iterate 8 (rintro _ rfl)
  simp only [Act.put, List.setIfInBounds_toArray, List.set_cons_zero, List.set_cons_succ]
  go_wp2
  go_ret
  exact ⟨_, rfl, hE, rfl⟩
theorem trim120 (w : World) : Calls Tryz.prog 99 #[strV [120], strV [32]] w (Ret w (Is (strV [120]))) := by
  go_enter Tryz.func99, Tryz.ntmps99
  go_wp2_with fail
  refine wp_region_M mixed (by kernel_rfl) ?_
  refine MDerR.step (Ob.move Wanted.free Has.oldIs) ?_
  refine MDerR.step (Ob.move Wanted.free Has.oldIs) ?_
  refine MDerR.step (Ob.strIdx Wanted.free (Has.new 1 0) (Has.cst _) (fun w1 => str_idx w1)) ?_
  refine MDerR.step (Ob.call2V Wanted.free entersTrimR (Has.new 0 2) (Has.new 2 0) (fun w1 hb1 => (trimR120 w1).mono fun _ _ h => StaysS.ret h)) ?_
  refine MDerR.step (Ob.move Wanted.free Has.oldIs) ?_
  refine MDerR.step (Ob.strIdx Wanted.free (Has.new 4 0) (Has.cst _) (fun w1 => str_idx w1)) ?_
  refine MDerR.step (Ob.call2V Wanted.free entersTrimL (Has.new 3 2) (Has.new 5 0) (fun w1 hb1 => (trimL120 w1).mono fun _ _ h => StaysS.ret h)) ?_
  refine MDerR.step (Ob.assign Wanted.free (Has.new 6 0)) ?_
  simp only [MDerR, dstsOf, List.map, EndM, List.reverse_cons, List.reverse_nil, List.nil_append, List.cons_append]
  intro wE hE
  iterate 8 (rintro _ rfl)
  simp only [Act.put, List.setIfInBounds_toArray, List.set_cons_zero, List.set_cons_succ]
  go_wp2
  go_ret
  exact ⟨_, rfl, hE, rfl⟩
theorem trim121 (w : World) : Calls Tryz.prog 99 #[strV [121], strV [32]] w (Ret w (Is (strV [121]))) := by
  go_enter Tryz.func99, Tryz.ntmps99
  go_wp2_with fail
  refine wp_region_M mixed (by kernel_rfl) ?_
  refine MDerR.step (Ob.move Wanted.free Has.oldIs) ?_
  refine MDerR.step (Ob.move Wanted.free Has.oldIs) ?_
  refine MDerR.step (Ob.strIdx Wanted.free (Has.new 1 0) (Has.cst _) (fun w1 => str_idx w1)) ?_
  refine MDerR.step (Ob.call2V Wanted.free entersTrimR (Has.new 0 2) (Has.new 2 0) (fun w1 hb1 => (trimR121 w1).mono fun _ _ h => StaysS.ret h)) ?_
  refine MDerR.step (Ob.move Wanted.free Has.oldIs) ?_
  refine MDerR.step (Ob.strIdx Wanted.free (Has.new 4 0) (Has.cst _) (fun w1 => str_idx w1)) ?_
  refine MDerR.step (Ob.call2V Wanted.free entersTrimL (Has.new 3 2) (Has.new 5 0) (fun w1 hb1 => (trimL121 w1).mono fun _ _ h => StaysS.ret h)) ?_
  refine MDerR.step (Ob.assign Wanted.free (Has.new 6 0)) ?_
  simp only [MDerR, dstsOf, List.map, EndM, List.reverse_cons, List.reverse_nil, List.nil_append, List.cons_append]
  intro wE hE
  iterate 8 (rintro _ rfl)
  simp only [Act.put, List.setIfInBounds_toArray, List.set_cons_zero, List.set_cons_succ]
  go_wp2
  go_ret
  exact ⟨_, rfl, hE, rfl⟩
theorem trim122 (w : World) : Calls Tryz.prog 99 #[strV [122], strV [32]] w (Ret w (Is (strV [122]))) := by
  go_enter Tryz.func99, Tryz.ntmps99
  go_wp2_with fail
  refine wp_region_M mixed (by kernel_rfl) ?_
  refine MDerR.step (Ob.move Wanted.free Has.oldIs) ?_
  refine MDerR.step (Ob.move Wanted.free Has.oldIs) ?_
  refine MDerR.step (Ob.strIdx Wanted.free (Has.new 1 0) (Has.cst _) (fun w1 => str_idx w1)) ?_
  refine MDerR.step (Ob.call2V Wanted.free entersTrimR (Has.new 0 2) (Has.new 2 0) (fun w1 hb1 => (trimR122 w1).mono fun _ _ h => StaysS.ret h)) ?_
  refine MDerR.step (Ob.move Wanted.free Has.oldIs) ?_
  refine MDerR.step (Ob.strIdx Wanted.free (Has.new 4 0) (Has.cst _) (fun w1 => str_idx w1)) ?_
  refine MDerR.step (Ob.call2V Wanted.free entersTrimL (Has.new 3 2) (Has.new 5 0) (fun w1 hb1 => (trimL122 w1).mono fun _ _ h => StaysS.ret h)) ?_
  refine MDerR.step (Ob.assign Wanted.free (Has.new 6 0)) ?_
  simp only [MDerR, dstsOf, List.map, EndM, List.reverse_cons, List.reverse_nil, List.nil_append, List.cons_append]
  intro wE hE
  iterate 8 (rintro _ rfl)
  simp only [Act.put, List.setIfInBounds_toArray, List.set_cons_zero, List.set_cons_succ]
  go_wp2
  go_ret
  exact ⟨_, rfl, hE, rfl⟩
end Go.Proofs.YtphhhnjeojdnkaaGreatDoor

/-
  Names of one letter: names.Item, names.Key.
-/
namespace Go.Proofs.YtphhhnjeojdnkaaGreatDoor
open Go.RowKit
theorem item119 (w : World) : Calls Tryz.prog 68 #[strV [119]] w (Ret w (IsB true)) := by
  go_enter Tryz.func68, Tryz.ntmps68
  go_wp2_with fail
  rw [conv_str]
  have hb2 := bytesWorld_below w [119]
  obtain ⟨_, _, _, h0, _, h1, _, h2⟩ := (bytesWorld_sl w [119] (by simp)).byte (i := 0) (by simp)
  cases h0
  simp at h1
  subst h1
  generalize Lib.bytesWorld w 5 ⟨⟨[119]⟩⟩ = w2 at *
  generalize grownCap w [119].length 0 5 = G at *
  rw [Nat.add_zero] at h2
  have HB2 := Lib.hid hb2; clear hb2
  have C1 := Lib.hid (trim119 w2)
  go_wp2
  refine wp_loop_rounds 2 ?_
  rw [rounds_succ]; go_wp2
  rw [rounds_succ]; go_wp2_with (first | (go_at_call 99; ((with_reducible refine C1.out.mono ?_); rintro e w3 ⟨_, rfl, hb3, rfl⟩)) | (go_at_call 100; (refine (contains119 w3).mono ?_; rintro e w4 ⟨rfl, rfl⟩)))
  go_ret
  exact retB rfl (HB2.out.le hb3)
theorem item120 (w : World) : Calls Tryz.prog 68 #[strV [120]] w (Ret w (IsB true)) := by
  go_enter Tryz.func68, Tryz.ntmps68
  go_wp2_with fail
  rw [conv_str]
  have hb2 := bytesWorld_below w [120]
  obtain ⟨_, _, _, h0, _, h1, _, h2⟩ := (bytesWorld_sl w [120] (by simp)).byte (i := 0) (by simp)
  cases h0
  simp at h1
  subst h1
  generalize Lib.bytesWorld w 5 ⟨⟨[120]⟩⟩ = w2 at *
  generalize grownCap w [120].length 0 5 = G at *
  rw [Nat.add_zero] at h2
  have HB2 := Lib.hid hb2; clear hb2
  have C1 := Lib.hid (trim120 w2)
  go_wp2
  refine wp_loop_rounds 2 ?_
  rw [rounds_succ]; go_wp2
  rw [rounds_succ]; go_wp2_with (first | (go_at_call 99; ((with_reducible refine C1.out.mono ?_); rintro e w3 ⟨_, rfl, hb3, rfl⟩)) | (go_at_call 100; (refine (contains120 w3).mono ?_; rintro e w4 ⟨rfl, rfl⟩)))
  go_ret
  exact retB rfl (HB2.out.le hb3)
theorem item121 (w : World) : Calls Tryz.prog 68 #[strV [121]] w (Ret w (IsB true)) := by
  go_enter Tryz.func68, Tryz.ntmps68
  go_wp2_with fail
  rw [conv_str]
  have hb2 := bytesWorld_below w [121]
  obtain ⟨_, _, _, h0, _, h1, _, h2⟩ := (bytesWorld_sl w [121] (by simp)).byte (i := 0) (by simp)
  cases h0
  simp at h1
  subst h1
  generalize Lib.bytesWorld w 5 ⟨⟨[121]⟩⟩ = w2 at *
  generalize grownCap w [121].length 0 5 = G at *
  rw [Nat.add_zero] at h2
  have HB2 := Lib.hid hb2; clear hb2
  have C1 := Lib.hid (trim121 w2)
  go_wp2
  refine wp_loop_rounds 2 ?_
  rw [rounds_succ]; go_wp2
  rw [rounds_succ]; go_wp2_with (first | (go_at_call 99; ((with_reducible refine C1.out.mono ?_); rintro e w3 ⟨_, rfl, hb3, rfl⟩)) | (go_at_call 100; (refine (contains121 w3).mono ?_; rintro e w4 ⟨rfl, rfl⟩)))
  go_ret
  exact retB rfl (HB2.out.le hb3)
theorem item122 (w : World) : Calls Tryz.prog 68 #[strV [122]] w (Ret w (IsB true)) := by
  go_enter Tryz.func68, Tryz.ntmps68
  go_wp2_with fail
  rw [conv_str]
  have hb2 := bytesWorld_below w [122]
  obtain ⟨_, _, _, h0, _, h1, _, h2⟩ := (bytesWorld_sl w [122] (by simp)).byte (i := 0) (by simp)
  cases h0
  simp at h1
  subst h1
  generalize Lib.bytesWorld w 5 ⟨⟨[122]⟩⟩ = w2 at *
  generalize grownCap w [122].length 0 5 = G at *
  rw [Nat.add_zero] at h2
  have HB2 := Lib.hid hb2; clear hb2
  have C1 := Lib.hid (trim122 w2)
  go_wp2
  refine wp_loop_rounds 2 ?_
  rw [rounds_succ]; go_wp2
  rw [rounds_succ]; go_wp2_with (first | (go_at_call 99; ((with_reducible refine C1.out.mono ?_); rintro e w3 ⟨_, rfl, hb3, rfl⟩)) | (go_at_call 100; (refine (contains122 w3).mono ?_; rintro e w4 ⟨rfl, rfl⟩)))
  go_ret
  exact retB rfl (HB2.out.le hb3)
theorem key97 (w : World) : Calls Tryz.prog 103 #[strV [97]] w (Ret w (IsB true)) := by
  go_enter Tryz.func103, Tryz.ntmps103
  go_wp2_with fail
  rw [conv_str]
  have hb2 := bytesWorld_below w [97]
  obtain ⟨_, _, _, h0, _, h1, _, h2⟩ := (bytesWorld_sl w [97] (by simp)).byte (i := 0) (by simp)
  cases h0
  simp at h1
  subst h1
  generalize Lib.bytesWorld w 5 ⟨⟨[97]⟩⟩ = w2 at *
  generalize grownCap w [97].length 0 5 = G at *
  rw [Nat.add_zero] at h2
  have HB2 := Lib.hid hb2; clear hb2
  go_wp2
  refine wp_loop_rounds 2 ?_
  rw [rounds_succ]; go_wp2
  rw [rounds_succ]; go_wp2
  go_ret
  exact retB rfl HB2.out
theorem key98 (w : World) : Calls Tryz.prog 103 #[strV [98]] w (Ret w (IsB true)) := by
  go_enter Tryz.func103, Tryz.ntmps103
  go_wp2_with fail
  rw [conv_str]
  have hb2 := bytesWorld_below w [98]
  obtain ⟨_, _, _, h0, _, h1, _, h2⟩ := (bytesWorld_sl w [98] (by simp)).byte (i := 0) (by simp)
  cases h0
  simp at h1
  subst h1
  generalize Lib.bytesWorld w 5 ⟨⟨[98]⟩⟩ = w2 at *
  generalize grownCap w [98].length 0 5 = G at *
  rw [Nat.add_zero] at h2
  have HB2 := Lib.hid hb2; clear hb2
  go_wp2
  refine wp_loop_rounds 2 ?_
  rw [rounds_succ]; go_wp2
  rw [rounds_succ]; go_wp2
  go_ret
  exact retB rfl HB2.out
theorem key99 (w : World) : Calls Tryz.prog 103 #[strV [99]] w (Ret w (IsB true)) := by
  go_enter Tryz.func103, Tryz.ntmps103
  go_wp2_with fail
  rw [conv_str]
  have hb2 := bytesWorld_below w [99]
  obtain ⟨_, _, _, h0, _, h1, _, h2⟩ := (bytesWorld_sl w [99] (by simp)).byte (i := 0) (by simp)
  cases h0
  simp at h1
  subst h1
  generalize Lib.bytesWorld w 5 ⟨⟨[99]⟩⟩ = w2 at *
  generalize grownCap w [99].length 0 5 = G at *
  rw [Nat.add_zero] at h2
  have HB2 := Lib.hid hb2; clear hb2
  go_wp2
  refine wp_loop_rounds 2 ?_
  rw [rounds_succ]; go_wp2
  rw [rounds_succ]; go_wp2
  go_ret
  exact retB rfl HB2.out
theorem key100 (w : World) : Calls Tryz.prog 103 #[strV [100]] w (Ret w (IsB true)) := by
  go_enter Tryz.func103, Tryz.ntmps103
  go_wp2_with fail
  rw [conv_str]
  have hb2 := bytesWorld_below w [100]
  obtain ⟨_, _, _, h0, _, h1, _, h2⟩ := (bytesWorld_sl w [100] (by simp)).byte (i := 0) (by simp)
  cases h0
  simp at h1
  subst h1
  generalize Lib.bytesWorld w 5 ⟨⟨[100]⟩⟩ = w2 at *
  generalize grownCap w [100].length 0 5 = G at *
  rw [Nat.add_zero] at h2
  have HB2 := Lib.hid hb2; clear hb2
  go_wp2
  refine wp_loop_rounds 2 ?_
  rw [rounds_succ]; go_wp2
  rw [rounds_succ]; go_wp2
  go_ret
  exact retB rfl HB2.out
end Go.Proofs.YtphhhnjeojdnkaaGreatDoor

/-
  Quantities; the reference's names of one letter.
-/
namespace Go.Proofs.YtphhhnjeojdnkaaGreatDoor
open Go.RowKit
def qtyS (q : Int) : Bool := decide (1 <= q) && decide (q <= 2147483647)
theorem cqty (q : Int) (w : World) : Calls Tryz.prog 69 #[.int .i64 q] w (Ret w (IsB (qtyS q))) := by
  unfold qtyS
  go_enter Tryz.func69, Tryz.ntmps69
  go_wp2
  all_goals go_ret
  all_goals exact retB (by rw [Bool.eq_iff_iff]; simp; omega) (Below.refl _ _)
theorem rqty (q : Int) (w : World) : Calls Tryz.prog 51 #[.int .i64 q] w (Ret w (IsB (qtyS q))) := by
  unfold qtyS
  go_enter Tryz.func51, Tryz.ntmps51
  go_wp2
  all_goals go_ret
  all_goals exact retB (by rw [Bool.eq_iff_iff]; simp; omega) (Below.refl _ _)
theorem ritem119 (w : World) : Calls Tryz.prog 50 #[strV [119]] w (Ret w (IsB true)) := by
  go_enter Tryz.func50, Tryz.ntmps50
  go_wp2
  refine wp_loop_rounds 2 ?_
  rw [rounds_succ]; go_wp2
  rw [rounds_succ]; go_wp2
  go_ret
  exact retB rfl (Below.refl _ _)
theorem ritem120 (w : World) : Calls Tryz.prog 50 #[strV [120]] w (Ret w (IsB true)) := by
  go_enter Tryz.func50, Tryz.ntmps50
  go_wp2
  refine wp_loop_rounds 2 ?_
  rw [rounds_succ]; go_wp2
  rw [rounds_succ]; go_wp2
  go_ret
  exact retB rfl (Below.refl _ _)
theorem ritem121 (w : World) : Calls Tryz.prog 50 #[strV [121]] w (Ret w (IsB true)) := by
  go_enter Tryz.func50, Tryz.ntmps50
  go_wp2
  refine wp_loop_rounds 2 ?_
  rw [rounds_succ]; go_wp2
  rw [rounds_succ]; go_wp2
  go_ret
  exact retB rfl (Below.refl _ _)
theorem ritem122 (w : World) : Calls Tryz.prog 50 #[strV [122]] w (Ret w (IsB true)) := by
  go_enter Tryz.func50, Tryz.ntmps50
  go_wp2
  refine wp_loop_rounds 2 ?_
  rw [rounds_succ]; go_wp2
  rw [rounds_succ]; go_wp2
  go_ret
  exact retB rfl (Below.refl _ _)
end Go.Proofs.YtphhhnjeojdnkaaGreatDoor

/-
  The reference's end of a batch; a byte of bytes.
-/
namespace Go.Proofs.YtphhhnjeojdnkaaGreatDoor
open Go.RowKit
def sumB (n : Nat) : List UInt8 := [UInt8.ofNat (n / 16777216), UInt8.ofNat (n / 65536 % 256), UInt8.ofNat (n / 256 % 256), UInt8.ofNat (n % 256)]
theorem sumB_cells (s : Nat) : (#[.int .u8 ((s : Int) / 16777216 % 256), .int .u8 ((s : Int) / 65536 % 256), .int .u8 ((s : Int) / 256 % 256), .int .u8 ((s : Int) % 256)] : Array Value).toList = encB.all (sumB s) := by
  have e1 : ((s : Int) / 16777216 % 256) = ((UInt8.ofNat (s / 16777216)).toNat : Int) := by rw [UInt8.toNat_ofNat']; rfl
  have e2 : ((s : Int) / 65536 % 256) = ((UInt8.ofNat (s / 65536 % 256)).toNat : Int) := by rw [UInt8.toNat_ofNat', Nat.mod_mod]; rfl
  have e3 : ((s : Int) / 256 % 256) = ((UInt8.ofNat (s / 256 % 256)).toNat : Int) := by rw [UInt8.toNat_ofNat', Nat.mod_mod]; rfl
  have e4 : ((s : Int) % 256) = ((UInt8.ofNat (s % 256)).toNat : Int) := by rw [UInt8.toNat_ofNat', Nat.mod_mod]; rfl
  rw [e1, e2, e3, e4]
  rfl
theorem rend (A : Option Addr) (n c s : Nat) (l : List UInt8) (w : World) (h : Sl encB w A n c l) (hl : l.length <= 1000000) :
    Calls Tryz.prog 29 #[.slice A n c, .int .u32 s] w (Ret w (IsOwnB w.heap.size (l ++ sumB s))) := by
  have H := Lib.hid h; have HL := Lib.hid hl
  have HC := Lib.hid (show (#[.int .u8 ((s : Int) / 16777216 % 256), .int .u8 ((s : Int) / 65536 % 256), .int .u8 ((s : Int) / 256 % 256), .int .u8 ((s : Int) % 256)] : Array Value).toList = encB.all (sumB s) from sumB_cells s)
  clear h hl
  go_enter Tryz.func29, Tryz.ntmps29
  go_wp2_with (first
    | (at_builtin; refine wpList_appS (B := w.heap.size) (v := .slice A1 l.length c1) (l := l) (k := sumB s) infB rfl rfl Tryz.underlying22 rfl rfl (HO1.out.mono (by go_grown)) (Sl.new encB w1 (sumB s) (by simp [sumB]) _ HC.out _) (by have := HL.out; simp [sumB]; omega) (by simp; omega) ?_; intro v2 w2 ho2 hg2 _; have HO2 := Lib.hid ho2; have HG2 := Lib.hid hg2; clear ho2 hg2; simp only [Act.put, List.setIfInBounds_toArray, List.set_cons_zero, List.set_cons_succ])
    | (at_builtin; refine wpList_appS (B := w.heap.size) (v := .slice none 0 0) (l := []) infB rfl rfl Tryz.underlying22 rfl rfl (OwnSl.nil_ _ _ _ _) H.out (by have := HL.out; simp; omega) (Nat.le_refl _) ?_; intro v1 w1 ho1 hg1 _; obtain ⟨A1, c1, rfl, hs1⟩ := OwnSl.sl ho1; have HO1 := Lib.hid ho1; have HG1 := Lib.hid hg1; have hz := hg1.size; clear ho1 hg1 hs1; simp only [Act.put, List.setIfInBounds_toArray, List.set_cons_zero, List.set_cons_succ]))
  go_ret
  have hb1 : Below w.heap.size w w1 := (Below.refl _ w).grown HG1.out (Nat.le_refl _) (fun q hq => by simp [Value.ownBlock] at hq)
  exact ⟨_, rfl, (hb1.alloc hz _).grown HG2.out (by simp; omega) (fun q hq => (HO1.out.own q hq).1), HO2.out⟩
theorem rat (A : Option Addr) (n c i : Nat) (l : List UInt8) (w : World) (h : Sl encB w A n c l) :
    Calls Tryz.prog 37 #[.slice A n c, .int .i64 i] w (Ret w (IsI ((l.getD i 0).toNat : Nat))) := by
  have hn := h.big
  by_cases hi : i < n
  · obtain ⟨b, o, x, rfl, hb, h1, d1, e1⟩ := h.byte hi
    have hx := headB_of (l := l.drop i) (x := x) (by rw [d1]; rfl)
    have hh : headB (l.drop i) = (l.getD i 0).toNat := by rw [d1, List.getD_eq_getElem?_getD, h1]; rfl
    rw [hh] at hx
    have HX := Lib.hid hx
    clear h d1 h1 hx hh
    go_enter Tryz.func37, Tryz.ntmps37
    go_wp2
    go_ret
    exact retI HX.out (Below.refl _ _)
  · have e : l.getD i 0 = 0 := by rw [List.getD_eq_getElem?_getD, List.getElem?_eq_none (by rw [<- h.len]; omega)]; rfl
    rw [e]
    clear h e
    go_enter Tryz.func37, Tryz.ntmps37
    go_wp2
    go_ret
    exact retI rfl (Below.refl _ _)
end Go.Proofs.YtphhhnjeojdnkaaGreatDoor

/-
  Slices that are made at once and filled by stores: an element's cells, whatever they are.
-/
namespace Go.Proofs.YtphhhnjeojdnkaaGreatDoor
open Go.RowKit
section
variable {w w' : World} {g n z : Nat} {f : Nat -> List Value}
end
theorem madeCells_get (zc : Array Value) (hz : 0 < zc.size) (k j : Nat) (hj : j < k) : (madeCells zc k)[j]? = zc[j % zc.size]? := by
  have h1 : j % zc.size < zc.size := Nat.mod_lt _ hz
  simp [madeCells, hj, h1]
end Go.Proofs.YtphhhnjeojdnkaaGreatDoor

/-
  Boxes made and filled at once; a goal at which the walk stops.
-/
namespace Go.Proofs.YtphhhnjeojdnkaaGreatDoor
open Go.RowKit
def Halt (p : Prop) : Prop := p
theorem Halt.go {p : Prop} (h : Halt p) : p := h
end Go.Proofs.YtphhhnjeojdnkaaGreatDoor

/-
  Items that have one mark: the dots, whether they are allowed.
-/
namespace Go.Proofs.YtphhhnjeojdnkaaGreatDoor
open Go.RowKit
structure Mk where
  r : Int
  k : Int
  q : Int
  t : Int
def mkR (m : Mk) : Array Value := #[.int .i64 m.r, .int .i64 m.k, .int .i64 m.q, .int .u64 m.t]
def dotM (m : Mk) : Dot := (m.r, m.k)
structure M1 (w : World) (b : Nat) (m : Mk) : Prop where
  lt : b < w.heap.size
  c0 : w.cell? ⟨b, 0, none⟩ = some (.int .i64 m.r)
  c1 : w.cell? ⟨b, 1, none⟩ = some (.int .i64 m.k)
  c2 : w.cell? ⟨b, 2, none⟩ = some (.int .i64 m.q)
  c3 : w.cell? ⟨b, 3, none⟩ = some (.int .u64 m.t)
theorem M1.mono {w w' : World} {b : Nat} {m : Mk} (h : M1 w b m) (hb : Below w.heap.size w w') : M1 w' b m := ⟨Nat.lt_of_lt_of_le h.lt hb.size, cellKeep hb h.c0, cellKeep hb h.c1, cellKeep hb h.c2, cellKeep hb h.c3⟩
theorem oneDots (w : World) (d : Dot) (ty : TypeId) : Dots (w.alloc (.cells #[.int .i64 d.1, .int .i64 d.2] ty)) (some ⟨w.heap.size, 0, none⟩) 1 1 [d] :=
  ⟨rfl, Nat.le_refl _, by unfold maxLen; omega, (fun e => nomatch e), fun j e hj => by
    have : j = 0 := by have := (List.getElem?_eq_some_iff.1 hj).1; simpa using this
    subst this
    simp at hj; subst hj
    exact ⟨w.heap.size, 0, rfl, by simp, by simp [go_sem], by simp [go_sem]⟩⟩
theorem oneDots1 (w : World) (o : Obj) (d : Dot) (ty : TypeId) : Dots ((w.alloc o).alloc (.cells #[.int .i64 d.1, .int .i64 d.2] ty)) (some ⟨w.heap.size + 1, 0, none⟩) 1 1 [d] := by
  have hz : (w.alloc o).heap.size = w.heap.size + 1 := by simp
  have := oneDots (w.alloc o) d ty
  rw [hz] at this
  exact this
theorem qdots1 {w : World} {b : Nat} {m : Mk} (h : M1 w b m) : Calls Tryz.prog 96 #[.slice (some ⟨b, 0, none⟩) 1 1] w (Ret w (IsDots [dotM m])) := by
  have H := Lib.hid h
  have c0 := h.c0; have c1 := h.c1; have c2 := h.c2; have c3 := h.c3
  have D1 := Lib.hid (oneDots1 w (.cells (mkR m) 112) (dotM m) 67)
  clear h
  go_enter Tryz.func96, Tryz.ntmps96
  go_wp2
  refine wp_loop_rounds 2 ?_
  rw [rounds_succ]
  go_wp2_with (first
    | (at_builtin; refine wpList_app (B := w.heap.size) (v := .slice none 0 0) (l := []) (k := [dotM m]) rfl rfl Tryz.underlying57 rfl rfl (Row.nil_ _ _) D1.out (by simp) (by simp <;> omega) ?_; intro v1 w1 r1 g1; have R1 := Lib.hid r1; have G1 := Lib.hid g1; clear r1 g1)
    | fail)
  rw [rounds_succ]
  go_wp2
  go_ret
  exact ⟨_, rfl, (((Below.refl _ w).alloc (Nat.le_refl _) _).alloc (by simp) _).grown G1.out (by simp <;> omega) (fun k hk => by simp [Value.ownBlock] at hk), IsRow.dots R1.out⟩
end Go.Proofs.YtphhhnjeojdnkaaGreatDoor

/-
  An item with one mark that is allowed: it is allowed; its dots; a cart with it.
-/
namespace Go.Proofs.YtphhhnjeojdnkaaGreatDoor
open Go.RowKit
def okM1 (m : Mk) : Prop := validD (dotM m) = true ∧ qtyS m.q = true ∧ 0 < m.t
theorem setOne (d : Dot) : unionD [d] [] = [d] := by simp [unionD, withD, memD, cutD]
theorem isSetOne (d : Dot) : isSet [d] = true := by simp [isSet]
theorem Dots.small1 {w : World} {A : Option Addr} {n c : Nat} {d : Dot} (h : Dots w A n c [d]) : Small n := by have := h.len; simp at this; unfold Small; omega
theorem qIsList1 {w : World} {b : Nat} {m : Mk} (h : M1 w b m) : Calls Tryz.prog 218 #[.slice (some ⟨b, 0, none⟩) 1 1] w (Ret w (IsB true)) := by
  have D := Lib.hid (qdots1 h)
  clear h
  go_enter Tryz.func218, Tryz.ntmps218
  go_wp2_with fail
  refine D.out.mono ?_
  rintro _ w1 ⟨_, rfl, hb1, A, n, c, rfl, hd⟩
  have HB := Lib.hid hb1
  have I := Lib.hid (disset A n c _ w1 hd)
  clear hb1 hd
  go_wp2_with fail
  refine I.out.mono ?_
  rintro _ w2 ⟨_, rfl, hb2, rfl⟩
  have HB2 := Lib.hid (HB.out.le hb2)
  clear hb2
  rw [isSetOne]
  go_wp2
  go_ret
  exact retB rfl HB2.out
theorem qValidMark (m : Mk) (hm : okM1 m) (w : World) : Calls Tryz.prog 184 #[.agg (mkR m)] w (Ret w (IsB true)) := by
  obtain ⟨h1, h2, h3⟩ := hm
  have C1 := Lib.hid (fun w => by have := dvalid m.r m.k w; rw [show validD (m.r, m.k) = true from h1] at this; exact this)
  have C2 := Lib.hid (fun w => by have := cqty m.q w; rw [h2] at this; exact this)
  have d3 : decide ((0 : Int) < m.t) = true := decide_eq_true h3
  have HB0 := Lib.hid (show Below w.heap.size w (w.alloc (.cells (mkR m) 112)) from (Below.refl _ _).alloc (Nat.le_refl _) _)
  clear h1 h2 h3
  unfold mkR
  go_enter Tryz.func184, Tryz.ntmps184
  go_wp2_with fail
  refine (C1.out _).mono ?_
  rintro _ w1 ⟨_, rfl, hb1, rfl⟩
  have q2 := cellKeep hb1 (show (w.alloc (.cells #[.int .i64 m.r, .int .i64 m.k, .int .i64 m.q, .int .u64 m.t] 112)).cell? ⟨w.heap.size, 2, none⟩ = some (.int .i64 m.q) by simp [go_sem])
  have q3 := cellKeep hb1 (show (w.alloc (.cells #[.int .i64 m.r, .int .i64 m.k, .int .i64 m.q, .int .u64 m.t] 112)).cell? ⟨w.heap.size, 3, none⟩ = some (.int .u64 m.t) by simp [go_sem])
  have HB1 := Lib.hid (HB0.out.le hb1)
  clear hb1
  go_wp2_with fail
  refine (C2.out _).mono ?_
  rintro _ w2 ⟨_, rfl, hb2, rfl⟩
  have q3' := cellKeep hb2 q3
  have HB2 := Lib.hid (HB1.out.le hb2)
  clear hb2 q2 q3
  go_wp2
  go_ret
  exact retB rfl HB2.out
theorem qInvalid1 (m : Mk) (hm : okM1 m) (w : World) : Calls Tryz.prog 219 #[.agg (mkR m)] w (Ret w (IsB false)) := by
  have C := Lib.hid (qValidMark m hm)
  have HB0 := Lib.hid (show Below w.heap.size w (w.alloc (.cells (mkR m) 112)) from (Below.refl _ _).alloc (Nat.le_refl _) _)
  unfold mkR at *
  go_enter Tryz.func219, Tryz.ntmps219
  go_wp2_with fail
  refine (C.out _).mono ?_
  rintro _ w1 ⟨_, rfl, hb1, rfl⟩
  have HB1 := Lib.hid (HB0.out.le hb1)
  clear hb1
  go_wp2
  go_ret
  exact retB rfl HB1.out
theorem qIndex1 {w : World} {b : Nat} {m : Mk} (h : M1 w b m) (hm : okM1 m) : Calls Tryz.prog 183 #[.slice (some ⟨b, 0, none⟩) 1 1, .func (.func 219) #[] #[]] w (Ret w (IsI (-1))) := by
  have C := Lib.hid (qInvalid1 m hm)
  have c0 := h.c0; have c1 := h.c1; have c2 := h.c2; have c3 := h.c3
  clear h hm
  unfold mkR at C
  go_enter Tryz.func183, Tryz.ntmps183
  go_wp2
  refine wp_loop_rounds 2 ?_
  rw [rounds_succ]
  go_wp2_with fail
  refine (C.out _).mono ?_
  rintro _ w1 ⟨_, rfl, hb1, rfl⟩
  have HB1 := Lib.hid hb1
  clear hb1 c0 c1 c2 c3
  go_wp2
  rw [rounds_succ]
  go_wp2
  go_ret
  exact ⟨_, rfl, HB1.out, rfl⟩
theorem qContains1 {w : World} {b : Nat} {m : Mk} (h : M1 w b m) (hm : okM1 m) : Calls Tryz.prog 139 #[.slice (some ⟨b, 0, none⟩) 1 1, .func (.func 219) #[] #[]] w (Ret w (IsB false)) := by
  have C := Lib.hid (qIndex1 h hm)
  clear h hm
  go_enter Tryz.func139, Tryz.ntmps139
  go_wp2_with fail
  refine C.out.mono ?_
  rintro _ w1 ⟨_, rfl, hb1, rfl⟩
  have HB1 := Lib.hid hb1
  clear hb1
  go_wp2
  go_ret
  exact retB rfl HB1.out
def NameOK (nm : List UInt8) : Prop := ∀ w, Calls Tryz.prog 68 #[strV nm] w (Ret w (IsB true))
structure I1 (w : World) (bi bm : Nat) (nm : List UInt8) (m : Mk) : Prop where
  lt : bi < w.heap.size
  c0 : w.cell? ⟨bi, 0, none⟩ = some (strV nm)
  c1 : w.cell? ⟨bi, 1, none⟩ = some (.slice (some ⟨bm, 0, none⟩) 1 1)
  mark : M1 w bm m
theorem I1.mono {w w' : World} {bi bm : Nat} {nm : List UInt8} {m : Mk} (h : I1 w bi bm nm m) (hb : Below w.heap.size w w') : I1 w' bi bm nm m := ⟨Nat.lt_of_lt_of_le h.lt hb.size, cellKeep hb h.c0, cellKeep hb h.c1, h.mark.mono hb⟩
theorem iInvalid {w : World} {bm : Nat} {nm : List UInt8} {m : Mk} (h : M1 w bm m) (hm : okM1 m) (hn : NameOK nm) : Calls Tryz.prog 172 #[.agg #[strV nm, .slice (some ⟨bm, 0, none⟩) 1 1]] w (Ret w (IsB false)) := by
  have hx : Below w.heap.size w (w.alloc (.cells #[strV nm, .slice (some ⟨bm, 0, none⟩) 1 1] 115)) := (Below.refl _ _).alloc (Nat.le_refl _) _
  have y1 : (w.alloc (.cells #[strV nm, .slice (some ⟨bm, 0, none⟩) 1 1] 115)).cell? ⟨w.heap.size, 1, none⟩ = some (.slice (some ⟨bm, 0, none⟩) 1 1) := by simp [go_sem]
  have HX := Lib.hid hx; have Y1 := Lib.hid y1; have H := Lib.hid h; have HM := Lib.hid hm; have NM := Lib.hid hn
  clear hx y1 h hm hn
  go_enter Tryz.func172, Tryz.ntmps172
  go_wp2_with fail
  refine (NM.out _).mono ?_
  rintro _ w1 ⟨_, rfl, hb1, rfl⟩
  have q1 := cellKeep hb1 Y1.out
  have HB1 := Lib.hid (HX.out.le hb1); have Q1 := Lib.hid q1
  clear hb1
  go_wp2_with fail
  refine (qIsList1 (H.out.mono HB1.out)).mono ?_
  rintro _ w2 ⟨_, rfl, hb2, rfl⟩
  have q2 := cellKeep hb2 Q1.out
  have HB2 := Lib.hid (HB1.out.le hb2)
  clear hb2 q1
  go_wp2_with fail
  refine (qContains1 (H.out.mono HB2.out) HM.out).mono ?_
  rintro _ w3 ⟨_, rfl, hb3, rfl⟩
  have HB3 := Lib.hid (HB2.out.le hb3)
  clear hb3 q2
  go_wp2
  go_ret
  exact retB rfl HB3.out
end Go.Proofs.YtphhhnjeojdnkaaGreatDoor

/-
  A list of one item with one mark, and a cart with it: allowed.
-/
namespace Go.Proofs.YtphhhnjeojdnkaaGreatDoor
open Go.RowKit
theorem iDots {w : World} {bi bm : Nat} {nm : List UInt8} {m : Mk} (h : I1 w bi bm nm m) : Calls Tryz.prog 95 #[.slice (some ⟨bi, 0, none⟩) 1 1] w (Ret w (IsRow w.heap.size [dotM m])) := by
  have H := Lib.hid h
  have c0 := h.c0; have c1 := h.c1
  have HX := Lib.hid (show Below w.heap.size w (w.alloc (.cells #[strV nm, .slice (some ⟨bm, 0, none⟩) 1 1] 115)) from (Below.refl _ _).alloc (Nat.le_refl _) _)
  clear h
  go_enter Tryz.func95, Tryz.ntmps95
  go_wp2
  refine wp_loop_rounds 2 ?_
  rw [rounds_succ]
  go_wp2_with fail
  refine (qdots1 (H.out.mark.mono HX.out)).mono ?_
  rintro _ w1 ⟨_, rfl, hb1, A, n, c, rfl, hd⟩
  have hn : n = 1 := hd.len
  subst hn
  have HB1 := Lib.hid (HX.out.le hb1); have HD := Lib.hid hd
  have HS1 := Lib.hid (show w.heap.size + 1 <= w1.heap.size by have := hb1.size; simpa using this)
  clear hb1 hd c0 c1
  go_wp2_with (first
    | (at_builtin; refine wpList_app (B := w.heap.size) (v := .slice none 0 0) (l := []) (k := [dotM m]) rfl rfl Tryz.underlying57 rfl rfl (Row.nil_ _ _) HD.out (by simp) (by have := HS1.out; omega) ?_; intro v2 w2 r2 g2; have R2 := Lib.hid r2; have G2 := Lib.hid g2; clear r2 g2)
    | fail)
  rw [rounds_succ]
  obtain ⟨A2, c2, e2, hd2⟩ := Row.dots R2.out
  simp only [List.nil_append] at hd2 e2
  subst e2
  have HB2 := Lib.hid (HB1.out.grown G2.out (by have := HS1.out; omega) (fun k hk => by simp [Value.ownBlock] at hk))
  have HD2 := Lib.hid hd2
  clear hd2
  go_wp2_with fail
  refine (dset _ _ _ _ w2 HD2.out HD2.out.small1).mono ?_
  rintro _ w3 ⟨v3, rfl, hb3, hr3⟩
  rw [setOne] at hr3
  have HB3 := Lib.hid (HB2.out.le hb3)
  have HR3 := Lib.hid (Row.low hr3 HB2.out.size)
  clear hb3 hr3
  go_wp2
  go_ret
  exact ⟨_, rfl, HB3.out, HR3.out⟩
theorem load_item {w0 w : World} {b o bm : Nat} {nm : List UInt8} (hb : Below w0.heap.size w0 w) (h0 : w0.cell? ⟨b, o, none⟩ = some (strV nm)) (h1 : w0.cell? ⟨b, o + 1, none⟩ = some (.slice (some ⟨bm, 0, none⟩) 1 1)) : (Instr.loadAt 115 (.pointer (some ⟨b, o, none⟩))).run Tryz.prog w = .ok (.agg #[strV nm, .slice (some ⟨bm, 0, none⟩) 1 1]) w := by
  have c1 := cellKeep hb h0
  have c2 := cellKeep hb h1
  simp [go_sem, c1, c2]
theorem entersInvalid : Enters Tryz.prog 172 := enters_of Tryz.func172 (by kernel_rfl) rfl
theorem iValid {w : World} {bi bm : Nat} {nm : List UInt8} {m : Mk} (h : I1 w bi bm nm m) (hm : okM1 m) (hn : NameOK nm) : Calls Tryz.prog 127 #[.slice (some ⟨bi, 0, none⟩) 1 1] w (Ret w (IsB true)) := by
  have H := Lib.hid h; have HM := Lib.hid hm; have NM := Lib.hid hn
  have c0 := h.c0; have c1 := h.c1
  have HX := Lib.hid (show Below w.heap.size w (w.alloc (.cells #[strV nm, .slice (some ⟨bm, 0, none⟩) 1 1] 115)) from (Below.refl _ _).alloc (Nat.le_refl _) _)
  have Y0 := Lib.hid (show (w.alloc (.cells #[strV nm, .slice (some ⟨bm, 0, none⟩) 1 1] 115)).cell? ⟨w.heap.size, 0, none⟩ = some (strV nm) by simp [go_sem])
  have Y1 := Lib.hid (show (w.alloc (.cells #[strV nm, .slice (some ⟨bm, 0, none⟩) 1 1] 115)).cell? ⟨w.heap.size, 1, none⟩ = some (.slice (some ⟨bm, 0, none⟩) 1 1) by simp [go_sem])
  clear h hm hn
  go_enter Tryz.func127, Tryz.ntmps127
  go_wp2
  refine wp_loop_rounds 2 ?_
  rw [rounds_succ]
  go_wp2_with fail
  refine wp_region_M mixed (by kernel_rfl) ?_
  refine MDerR.step (Ob.loadV Wanted.free Has.oldIs (fun w1 hb1 => load_item hb1 Y0.out Y1.out)) ?_
  refine MDerR.step (Ob.call1V Wanted.free entersInvalid (Has.new 0 0) (fun w1 hb1 => iInvalid ((H.out.mark.mono HX.out).mono hb1) HM.out NM.out)) ?_
  refine MDerR.step (Ob.move Wanted.free (Has.new 1 0)) ?_
  refine MDerR.step (Ob.move (Wanted.on 2 0) Has.oldIs) ?_
  refine MDerR.step (Ob.binV (Wanted.on 2 1) (Has.new 3 0) (Has.cst _) (fun w1 => int_gtr false rfl)) ?_
  refine MDerR.step (Ob.move (Wanted.on 2 2) (Has.new 4 0)) ?_
  refine MDerR.step (Ob.off 5 0) ?_
  refine MDerR.step (Ob.off 5 1) ?_
  refine MDerR.step (Ob.off 5 2) ?_
  refine MDerR.step (Ob.off 5 3) ?_
  refine MDerR.step (Ob.off 5 4) ?_
  refine MDerR.step (Ob.off 5 5) ?_
  refine MDerR.step (Ob.off 5 6) ?_
  refine MDerR.step (Ob.off 5 7) ?_
  refine MDerR.step (Ob.off 5 8) ?_
  refine MDerR.step (Ob.pickF (Wanted.on 2 12) (Has.new 5 9) (Has.cst _)) ?_
  refine MDerR.step (Ob.pickF Wanted.free (Has.new 2 13) (Has.new 15 0)) ?_
  simp only [MDerR, dstsOf, List.map, EndM, List.reverse_cons, List.reverse_nil, List.nil_append, List.cons_append]
  intro wE hE
  iterate 17 (rintro _ rfl)
  simp only [Act.put, List.setIfInBounds_toArray, List.set_cons_zero, List.set_cons_succ]
  have q1 := cellKeep hE Y1.out
  have HE := Lib.hid (HX.out.le hE)
  clear hE c0 c1
  go_wp2
  rw [rounds_succ]
  go_wp2_with fail
  refine (iDots (H.out.mono HE.out)).mono ?_
  rintro _ w2 ⟨v2, rfl, hb2, hr2⟩
  obtain ⟨A2, c2, rfl, hd2⟩ := Row.dots hr2
  have HB2 := Lib.hid (HE.out.le hb2)
  clear hb2 hr2 hd2 q1
  go_wp2
  go_ret
  exact retB rfl HB2.out
end Go.Proofs.YtphhhnjeojdnkaaGreatDoor

/-
  A cart with one item that has one mark: it is allowed.
-/
namespace Go.Proofs.YtphhhnjeojdnkaaGreatDoor
open Go.RowKit
section
variable {ops : List Oper} {Fs : List VT} {w0 : World} {a0 : Act} {i : Nat} {d : Option Tmp} {ty : TypeId} {pos : String} {after : Array Edge} {g : Option (Nat × Bool)}
theorem Ob.lenR {x : Operand} {B n : Nat} {l : List Dot} (hw : Wanted ops Fs w0 a0 i ⟨d, .call ⟨.builtin .len, #[x], #[57]⟩, ty, pos, after, g⟩) (hx : Has ops Fs w0 a0 i ⟨d, .call ⟨.builtin .len, #[x], #[57]⟩, ty, pos, after, g⟩ x (IsRow B l)) (hn : l.length = n) :
    Ob Tryz.prog ops Fs w0 a0 i ⟨d, .call ⟨.builtin .len, #[x], #[57]⟩, ty, pos, after, g⟩ (Is (.int .i64 (n : Int))) :=
  Ob.stay hw fun a w cx => by
    obtain ⟨A, c, e, _⟩ := Row.dots (hx a w cx)
    refine ⟨.int .i64 (n : Int), ?_, rfl⟩
    generalize a.eval = ρ at e
    simp [execOp, resolve, invoke, builtin, e, go_sem, hn]
end
structure C1 (w : World) (A : Option Addr) (n ca : Nat) (B : Option Addr) (m cb : Nat) (c : Ctx) (bi bm : Nat) (nm : List UInt8) (mk : Mk) : Prop where
  con : Con w A n ca B m cb c
  item : I1 w bi bm nm mk
theorem C1.mono {w w' : World} {A B : Option Addr} {n ca m cb bi bm : Nat} {c : Ctx} {nm : List UInt8} {mk : Mk} (h : C1 w A n ca B m cb c bi bm nm mk) (hb : Below w.heap.size w w') : C1 w' A n ca B m cb c bi bm nm mk := ⟨h.con.mono hb, h.item.mono hb⟩
structure C1ok (c : Ctx) (nm : List UInt8) (mk : Mk) : Prop where
  comp : compC c = true
  miss : missC c [dotM mk] = []
  mark : okM1 mk
  name : NameOK nm
abbrev cartA (A : Option Addr) (n ca : Nat) (B : Option Addr) (m cb bi : Nat) : Array Value := #[.slice A n ca, .slice B m cb, .slice (some ⟨bi, 0, none⟩) 1 1]
theorem load_cctx {w0 w : World} {N : Nat} {A B : Option Addr} {n ca m cb : Nat} (hb : Below w0.heap.size w0 w) (h0 : w0.cell? ⟨N, 0, none⟩ = some (.slice A n ca)) (h1 : w0.cell? ⟨N, 1, none⟩ = some (.slice B m cb)) : (Instr.loadAt 60 (.pointer (some ⟨N, 0, none⟩))).run Tryz.prog w = .ok (.agg #[.slice A n ca, .slice B m cb]) w := by
  have c1 := cellKeep hb h0
  have c2 := cellKeep hb h1
  simp [go_sem, c1, c2]
theorem load_citems {w0 w : World} {N : Nat} {v : Value} {bi : Nat} (hb : Below w0.heap.size w0 w) (h0 : w0.cell? ⟨N, 2, none⟩ = some (.slice (some ⟨bi, 0, none⟩) 1 1)) : (Instr.loadAt 61 (.pointer (some ⟨N, 2, none⟩))).run Tryz.prog w = .ok (.slice (some ⟨bi, 0, none⟩) 1 1) w := by
  have c1 := cellKeep hb h0
  simp [go_sem, c1]
theorem field_c0 {w : World} {N : Nat} : (Instr.fieldAt 63 (.pointer (some ⟨N, 0, none⟩)) 0).run Tryz.prog w = .ok (.pointer (some ⟨N, 0, none⟩)) w := by simp [go_sem]
theorem field_c1 {w : World} {N : Nat} : (Instr.fieldAt 63 (.pointer (some ⟨N, 0, none⟩)) 1).run Tryz.prog w = .ok (.pointer (some ⟨N, 2, none⟩)) w := by simp [go_sem]
theorem enters126 : Enters Tryz.prog 126 := enters_of Tryz.func126 (by kernel_rfl) rfl
theorem enters127 : Enters Tryz.prog 127 := enters_of Tryz.func127 (by kernel_rfl) rfl
theorem enters95 : Enters Tryz.prog 95 := enters_of Tryz.func95 (by kernel_rfl) rfl
theorem enters128 : Enters Tryz.prog 128 := enters_of Tryz.func128 (by kernel_rfl) rfl
theorem dotsD {w : World} {bi bm : Nat} {nm : List UInt8} {m : Mk} (h : I1 w bi bm nm m) : Calls Tryz.prog 95 #[.slice (some ⟨bi, 0, none⟩) 1 1] w (Ret w (IsDots [dotM m])) :=
  (iDots h).mono fun _ _ ⟨v, e, hb, hr⟩ => ⟨v, e, hb, IsRow.dots hr⟩
theorem missD {w : World} {A B : Option Addr} {n ca m cb : Nat} {c : Ctx} {d : Dot} {u v : Value} (h : Con w A n ca B m cb c) (hu : Is (.agg #[.slice A n ca, .slice B m cb]) w u) (hv : IsDots [d] w v) : Calls Tryz.prog 128 #[u, v] w (Ret w (IsRow 0 (missC c [d]))) := by
  have hu : u = _ := hu
  subst hu
  obtain ⟨C, k, ck, rfl, hd⟩ := hv
  exact (imissing A B C n ca m cb k ck c [d] w h hd hd.small1).mono fun _ _ ⟨v, e, hb, hr⟩ => ⟨v, e, hb, Row.low hr (Nat.zero_le _)⟩
theorem cValid1 {w : World} {A B : Option Addr} {n ca m cb bi bm : Nat} {c : Ctx} {nm : List UInt8} {mk : Mk} (h : C1 w A n ca B m cb c bi bm nm mk) (ok : C1ok c nm mk) :
    Calls Tryz.prog 94 #[.agg (cartA A n ca B m cb bi)] w (Ret w (IsB true)) := by
  obtain ⟨N, hN⟩ : ∃ N, N = w.heap.size := ⟨_, rfl⟩
  have hx : Below w.heap.size w (w.alloc (.cells (cartA A n ca B m cb bi) 63)) := (Below.refl _ _).alloc (Nat.le_refl _) _
  have y0 : (w.alloc (.cells (cartA A n ca B m cb bi) 63)).cell? ⟨N, 0, none⟩ = some (.slice A n ca) := by rw [hN]; simp [go_sem]
  have y1 : (w.alloc (.cells (cartA A n ca B m cb bi) 63)).cell? ⟨N, 1, none⟩ = some (.slice B m cb) := by rw [hN]; simp [go_sem]
  have y2 : (w.alloc (.cells (cartA A n ca B m cb bi) 63)).cell? ⟨N, 2, none⟩ = some (.slice (some ⟨bi, 0, none⟩) 1 1) := by rw [hN]; simp [go_sem]
  have HX := Lib.hid hx; have Y0 := Lib.hid y0; have Y1 := Lib.hid y1; have Y2 := Lib.hid y2
  have H := Lib.hid (h.mono hx); have OK := Lib.hid ok
  have CC := Lib.hid (fun w1 (hb1 : Below (w.alloc (.cells (cartA A n ca B m cb bi) 63)).heap.size (w.alloc (.cells (cartA A n ca B m cb bi) 63)) w1) => by have := ccompact A B n ca m cb c w1 ((h.mono hx).con.mono hb1); rw [ok.comp] at this; exact this)
  clear hx y0 y1 y2 h ok
  have EN : Hid (w.heap.size = N) := Lib.hid hN.symm
  go_enter Tryz.func94, Tryz.ntmps94
  go_wp2_with fail
  rw [<- hN]
  clear hN
  refine wp_region_M mixed (by kernel_rfl) ?_
  refine MDerR.step (Ob.fieldV Wanted.free Has.oldIs (fun w1 => field_c0)) ?_
  refine MDerR.step (Ob.loadV Wanted.free (Has.new 0 0) (fun w1 hb1 => load_cctx hb1 Y0.out Y1.out)) ?_
  refine MDerR.step (Ob.call1V Wanted.free enters126 (Has.new 1 0) (fun w1 hb1 => CC.out w1 hb1)) ?_
  refine MDerR.step (Ob.move Wanted.free (Has.new 2 0)) ?_
  refine MDerR.step (Ob.fieldV (Wanted.on 3 0) Has.oldIs (fun w1 => field_c1)) ?_
  refine MDerR.step (Ob.loadV (Wanted.on 3 1) (Has.new 4 0) (fun w1 hb1 => load_citems (v := undef) hb1 Y2.out)) ?_
  refine MDerR.step (Ob.call1V (Wanted.on 3 2) enters127 (Has.new 5 0) (fun w1 hb1 => iValid (H.out.item.mono hb1) OK.out.mark OK.out.name)) ?_
  refine MDerR.step (Ob.pickT Wanted.free (Has.new 3 3) (Has.new 6 0)) ?_
  refine MDerR.step (Ob.move Wanted.free (Has.new 7 0)) ?_
  refine MDerR.step (Ob.fieldV (Wanted.on 8 0) Has.oldIs (fun w1 => field_c0)) ?_
  refine MDerR.step (Ob.loadV (Wanted.on 8 1) (Has.new 9 0) (fun w1 hb1 => load_cctx hb1 Y0.out Y1.out)) ?_
  refine MDerR.step (Ob.fieldV (Wanted.on 8 2) Has.oldIs (fun w1 => field_c1)) ?_
  refine MDerR.step (Ob.loadV (Wanted.on 8 3) (Has.new 11 0) (fun w1 hb1 => load_citems (v := undef) hb1 Y2.out)) ?_
  refine MDerR.step (Ob.call1V (Wanted.on 8 4) enters95 (Has.new 12 0) (fun w1 hb1 => dotsD (H.out.item.mono hb1))) ?_
  refine MDerR.step (Ob.call2 (Wanted.on 8 5) enters128 (Has.new 10 3) (Has.new 13 0) (fun w1 u v hb1 hu hv => missD (H.out.con.mono hb1) hu hv)) ?_
  refine MDerR.step (Ob.lenR (Wanted.on 8 6) (Has.new 14 0) (show (missC c [dotM mk]).length = 0 by rw [OK.out.miss]; rfl)) ?_
  refine MDerR.step (Ob.binV (Wanted.on 8 7) (Has.new 15 0) (Has.cst _) (fun w1 => int_eql true rfl)) ?_
  refine MDerR.step (Ob.pickT Wanted.free (Has.new 8 8) (Has.new 16 0)) ?_
  refine MDerR.step (Ob.assign Wanted.free (Has.new 17 0)) ?_
  simp only [MDerR, dstsOf, List.map, EndM, List.reverse_cons, List.reverse_nil, List.nil_append, List.cons_append]
  intro wE hE
  iterate 13 (rintro _ rfl)
  rintro _ _h13
  rintro _ _h14
  iterate 4 (rintro _ rfl)
  simp only [Act.put, List.setIfInBounds_toArray, List.set_cons_zero, List.set_cons_succ]
  have HE := Lib.hid (HX.out.le hE)
  clear hE
  go_wp2
  go_ret
  exact retB rfl HE.out
end Go.Proofs.YtphhhnjeojdnkaaGreatDoor

/-
  Closed calls on an empty cart, reckoned.
-/
namespace Go.Proofs.YtphhhnjeojdnkaaGreatDoor
open Go.RowKit
namespace V
mutual
def sameW : Nat -> Value -> Value -> Bool
  | 0, _, _ => false
  | d + 1, a, b => match a, b with
    | .bool x, .bool y => x == y
    | .int k x, .int l y => decide (k = l) && decide (x = y)
    | .slice none n c, .slice none m e => Nat.beq n m && Nat.beq c e
    | .tuple ⟨x⟩, .tuple ⟨y⟩ => sameWL d x y
    | _, _ => false
def sameWL : Nat -> List Value -> List Value -> Bool
  | _, [], [] => true
  | d, a :: x, b :: y => sameW d a b && sameWL d x y
  | _, _, _ => false
end
mutual
theorem sameW_eq : ∀ {d : Nat} {a b : Value}, sameW d a b = true -> a = b
  | 0, _, _, h => by unfold sameW at h; cases h
  | d + 1, a, b, h => by
    unfold sameW at h
    split at h
    · simp at h; rw [h]
    · simp at h; rw [h.1, h.2]
    · simp only [Bool.and_eq_true] at h; rw [Nat.eq_of_beq_eq_true h.1, Nat.eq_of_beq_eq_true h.2]
    · rw [sameWL_eq h]
    · cases h
theorem sameWL_eq : ∀ {d : Nat} {a b : List Value}, sameWL d a b = true -> a = b
  | _, [], [], _ => rfl
  | d, a :: x, b :: y, h => by
    unfold sameWL at h
    simp only [Bool.and_eq_true] at h
    rw [sameW_eq h.1, sameWL_eq h.2]
  | _, [], _ :: _, h => by unfold sameWL at h; cases h
  | _, _ :: _, [], h => by unfold sameWL at h; cases h
end
def isIt (x : R Res) (v : Value) : Bool := match x with | .ok r => r.wr.isEmpty && sameW 6 r.v v | .no _ => false
theorem isIt_ok {x : R Res} {v : Value} (h : isIt x v = true) : ∃ r, x = .ok r ∧ r.wr = [] ∧ r.v = v := by
  unfold isIt at h
  cases x with
  | no s => cases h
  | ok r =>
    simp only [Bool.and_eq_true] at h
    exact ⟨r, rfl, List.isEmpty_iff.1 h.1, sameW_eq h.2⟩
theorem it_of {P : Program} {B : Nat} [Low B] {call : CallE} (hc : CallOK P B call) (hok : P.funcs.toList.all okFn = true) {f : Nat} {args : List Value} {v : Value} (h : isIt (call f args [] B) v = true) (hb : below B deep v = true) (hargs : args.all (below B deep) = true)
    (hbody : ((P.funcs[f]?).bind Func.body).isSome = true) (w : World) : Calls P f ⟨args⟩ w (Ret w (Is v)) := by
  obtain ⟨r, hr, hwr, hv⟩ := isIt_ok h
  have := reckoned hc hok hr hwr (by rw [hv]; exact hb) hargs hbody w
  rw [hv] at this
  exact this
end V
abbrev noCart : Value := .agg ⟨[.slice none 0 0, .slice none 0 0, .slice none 0 0]⟩
theorem run_cv : V.isIt (V.callF Tryz.prog 400 V.noMemo 2000 40 94 [noCart] [] 400) (.bool true) = true := by kernel_rfl
theorem body_cv : ((Tryz.prog.funcs[94]?).bind Func.body).isSome = true := by kernel_rfl
theorem no_cv (w : World) : Calls Tryz.prog 94 #[noCart] w (Ret w (Is (.bool true))) := V.it_of (V.callF_ok mixed_ok funcs_ok V.noMemos 2000 40) funcs_ok run_cv rfl rfl body_cv w
theorem run_ct : V.isIt (V.callF Tryz.prog 400 V.noMemo 2000 40 70 [noCart] [] 400) (.tuple ⟨[.int .u64 (.ofNat 1), .int .i64 (.ofNat 0)]⟩) = true := by kernel_rfl
theorem body_ct : ((Tryz.prog.funcs[70]?).bind Func.body).isSome = true := by kernel_rfl
theorem no_ct (w : World) : Calls Tryz.prog 70 #[noCart] w (Ret w (Is (.tuple ⟨[.int .u64 (.ofNat 1), .int .i64 (.ofNat 0)]⟩))) := V.it_of (V.callF_ok mixed_ok funcs_ok V.noMemos 2000 40) funcs_ok run_ct rfl rfl body_ct w
theorem run_rv : V.isIt (V.callF Tryz.prog 400 V.noMemo 2000 40 78 [noCart] [] 400) (.bool true) = true := by kernel_rfl
theorem body_rv : ((Tryz.prog.funcs[78]?).bind Func.body).isSome = true := by kernel_rfl
theorem no_rv (w : World) : Calls Tryz.prog 78 #[noCart] w (Ret w (Is (.bool true))) := V.it_of (V.callF_ok mixed_ok funcs_ok V.noMemos 2000 40) funcs_ok run_rv rfl rfl body_rv w
theorem run_rt : V.isIt (V.callF Tryz.prog 400 V.noMemo 2000 40 53 [noCart] [] 400) (.tuple ⟨[.int .u64 (.ofNat 1), .int .i64 (.ofNat 0)]⟩) = true := by kernel_rfl
theorem body_rt : ((Tryz.prog.funcs[53]?).bind Func.body).isSome = true := by kernel_rfl
theorem no_rt (w : World) : Calls Tryz.prog 53 #[noCart] w (Ret w (Is (.tuple ⟨[.int .u64 (.ofNat 1), .int .i64 (.ofNat 0)]⟩))) := V.it_of (V.callF_ok mixed_ok funcs_ok V.noMemos 2000 40) funcs_ok run_rt rfl rfl body_rt w
theorem run_cd119 : V.isIt (V.callF Tryz.prog 400 V.noMemo 2000 40 65 [noCart, .string ⟨⟨[119]⟩⟩] [] 400) (.slice none 0 0) = true := by kernel_rfl
theorem body_cd119 : ((Tryz.prog.funcs[65]?).bind Func.body).isSome = true := by kernel_rfl
theorem no_cd119 (w : World) : Calls Tryz.prog 65 #[noCart, .string ⟨⟨[119]⟩⟩] w (Ret w (Is (.slice none 0 0))) := V.it_of (V.callF_ok mixed_ok funcs_ok V.noMemos 2000 40) funcs_ok run_cd119 rfl rfl body_cd119 w
theorem run_cd120 : V.isIt (V.callF Tryz.prog 400 V.noMemo 2000 40 65 [noCart, .string ⟨⟨[120]⟩⟩] [] 400) (.slice none 0 0) = true := by kernel_rfl
theorem body_cd120 : ((Tryz.prog.funcs[65]?).bind Func.body).isSome = true := by kernel_rfl
theorem no_cd120 (w : World) : Calls Tryz.prog 65 #[noCart, .string ⟨⟨[120]⟩⟩] w (Ret w (Is (.slice none 0 0))) := V.it_of (V.callF_ok mixed_ok funcs_ok V.noMemos 2000 40) funcs_ok run_cd120 rfl rfl body_cd120 w
theorem run_cd121 : V.isIt (V.callF Tryz.prog 400 V.noMemo 2000 40 65 [noCart, .string ⟨⟨[121]⟩⟩] [] 400) (.slice none 0 0) = true := by kernel_rfl
theorem body_cd121 : ((Tryz.prog.funcs[65]?).bind Func.body).isSome = true := by kernel_rfl
theorem no_cd121 (w : World) : Calls Tryz.prog 65 #[noCart, .string ⟨⟨[121]⟩⟩] w (Ret w (Is (.slice none 0 0))) := V.it_of (V.callF_ok mixed_ok funcs_ok V.noMemos 2000 40) funcs_ok run_cd121 rfl rfl body_cd121 w
theorem run_cd122 : V.isIt (V.callF Tryz.prog 400 V.noMemo 2000 40 65 [noCart, .string ⟨⟨[122]⟩⟩] [] 400) (.slice none 0 0) = true := by kernel_rfl
theorem body_cd122 : ((Tryz.prog.funcs[65]?).bind Func.body).isSome = true := by kernel_rfl
theorem no_cd122 (w : World) : Calls Tryz.prog 65 #[noCart, .string ⟨⟨[122]⟩⟩] w (Ret w (Is (.slice none 0 0))) := V.it_of (V.callF_ok mixed_ok funcs_ok V.noMemos 2000 40) funcs_ok run_cd122 rfl rfl body_cd122 w
theorem run_rd119 : V.isIt (V.callF Tryz.prog 400 V.noMemo 2000 40 55 [noCart, .string ⟨⟨[119]⟩⟩] [] 400) (.slice none 0 0) = true := by kernel_rfl
theorem body_rd119 : ((Tryz.prog.funcs[55]?).bind Func.body).isSome = true := by kernel_rfl
theorem no_rd119 (w : World) : Calls Tryz.prog 55 #[noCart, .string ⟨⟨[119]⟩⟩] w (Ret w (Is (.slice none 0 0))) := V.it_of (V.callF_ok mixed_ok funcs_ok V.noMemos 2000 40) funcs_ok run_rd119 rfl rfl body_rd119 w
theorem run_rd120 : V.isIt (V.callF Tryz.prog 400 V.noMemo 2000 40 55 [noCart, .string ⟨⟨[120]⟩⟩] [] 400) (.slice none 0 0) = true := by kernel_rfl
theorem body_rd120 : ((Tryz.prog.funcs[55]?).bind Func.body).isSome = true := by kernel_rfl
theorem no_rd120 (w : World) : Calls Tryz.prog 55 #[noCart, .string ⟨⟨[120]⟩⟩] w (Ret w (Is (.slice none 0 0))) := V.it_of (V.callF_ok mixed_ok funcs_ok V.noMemos 2000 40) funcs_ok run_rd120 rfl rfl body_rd120 w
theorem run_rd121 : V.isIt (V.callF Tryz.prog 400 V.noMemo 2000 40 55 [noCart, .string ⟨⟨[121]⟩⟩] [] 400) (.slice none 0 0) = true := by kernel_rfl
theorem body_rd121 : ((Tryz.prog.funcs[55]?).bind Func.body).isSome = true := by kernel_rfl
theorem no_rd121 (w : World) : Calls Tryz.prog 55 #[noCart, .string ⟨⟨[121]⟩⟩] w (Ret w (Is (.slice none 0 0))) := V.it_of (V.callF_ok mixed_ok funcs_ok V.noMemos 2000 40) funcs_ok run_rd121 rfl rfl body_rd121 w
theorem run_rd122 : V.isIt (V.callF Tryz.prog 400 V.noMemo 2000 40 55 [noCart, .string ⟨⟨[122]⟩⟩] [] 400) (.slice none 0 0) = true := by kernel_rfl
theorem body_rd122 : ((Tryz.prog.funcs[55]?).bind Func.body).isSome = true := by kernel_rfl
theorem no_rd122 (w : World) : Calls Tryz.prog 55 #[noCart, .string ⟨⟨[122]⟩⟩] w (Ret w (Is (.slice none 0 0))) := V.it_of (V.callF_ok mixed_ok funcs_ok V.noMemos 2000 40) funcs_ok run_rd122 rfl rfl body_rd122 w
end Go.Proofs.YtphhhnjeojdnkaaGreatDoor

/-
  delta.Add on an empty cart.
-/
namespace Go.Proofs.YtphhhnjeojdnkaaGreatDoor
open Go.RowKit
theorem noCon (w : World) : Con w none 0 0 none 0 0 ([], []) := ⟨Dots.nil_, Dots.nil_⟩
theorem validOne {d : Dot} (h : validD d = true) : validL [d] = true := by simp [validL, h]
theorem smallAdd : Small (0 + (0 + 1) + 1) := by unfold Small; omega
theorem cOf {w : World} {C : Option Addr} {ck : Nat} {d : Dot} (h : Dots w C 1 ck [d]) (hv : validD d = true) : Calls Tryz.prog 102 #[.slice C 1 ck] w (Ret w (IsPair (IsConA w.heap.size (addC ([], []) [d])) 0)) := by
  have hx : Below w.heap.size w (w.alloc (conBox none 0 0 none 0 0)) := (Below.refl _ _).alloc (Nat.le_refl _) _
  have C1 := Lib.hid (iadd none none C 0 0 0 0 1 ck ([], []) [d] _ (noCon _) (h.mono hx) smallAdd rfl (validOne hv))
  have z0 : (w.alloc (conBox none 0 0 none 0 0)).cell? ⟨w.heap.size, 0, none⟩ = some (.slice none 0 0) := by simp [go_sem]
  have z1 : (w.alloc (conBox none 0 0 none 0 0)).cell? ⟨w.heap.size, 1, none⟩ = some (.slice none 0 0) := by simp [go_sem]
  have f0 : ∀ o, (w.alloc (conBox none 0 0 none 0 0)).frozen? ⟨w.heap.size, o, none⟩ = false := fun o => by simp [go_sem]
  have HX := Lib.hid hx; have Z0 := Lib.hid z0; have Z1 := Lib.hid z1; have F0 := Lib.hid f0
  clear hx h hv z0 z1 f0
  go_enter Tryz.func102, Tryz.ntmps102
  go_wp2_with fail
  refine C1.out.mono ?_
  rintro _ w1 ⟨_, rfl, hb1, x, rfl, hx⟩
  obtain ⟨A1, n1, c1, B1, m1, d1, rfl, r1, r2, hap⟩ := hx
  have hz0 : (w.alloc (conBox none 0 0 none 0 0)).heap.size = w.heap.size + 1 := by simp
  rw [hz0] at r1 r2
  have x0 := cellKeep hb1 Z0.out
  have x1 := cellKeep hb1 Z1.out
  have yf0 : w1.frozen? ⟨w.heap.size, 0, none⟩ = false := (hb1.frozen (p := ⟨w.heap.size, 0, none⟩) (by simp)).trans (F0.out 0)
  have yf1 : w1.frozen? ⟨w.heap.size, 1, none⟩ = false := (hb1.frozen (p := ⟨w.heap.size, 1, none⟩) (by simp)).trans (F0.out 1)
  have hz : w.heap.size < w1.heap.size := World.block_lt_of_cell? w1 _ x0
  have s0 := cell_set (v := .slice A1 n1 c1) x0
  have s1 := cell_set (v := .slice B1 m1 d1) (cell_far (b := ⟨w.heap.size, 0, none⟩) (v := .slice A1 n1 c1) (by simp) x1)
  have HB := Lib.hid (HX.out.le hb1); have R1 := Lib.hid r1; have R2 := Lib.hid r2; have HAP := Lib.hid hap
  clear hb1 r1 r2 hap hz0
  go_wp2
  refine bodyPost_ret (v := .tuple #[.agg #[.slice A1 n1 c1, .slice B1 m1 d1], .int .i64 0]) (by simp [results, Tryz.results102, go_sem, s0, s1]) rfl ?_
  have ho1 : ∀ j, (Value.slice A1 n1 c1).ownBlock = some j -> j ≠ w.heap.size := fun j hj => by have := Row.own _ R1.out j hj; omega
  have ho2 : ∀ j, (Value.slice B1 m1 d1).ownBlock = some j -> j ≠ w.heap.size := fun j hj => by have := Row.own _ R2.out j hj; omega
  exact ⟨_, rfl, (HB.out.setCell (p := ⟨w.heap.size, 0, none⟩) (by simp) _).setCell (p := ⟨w.heap.size, 1, none⟩) (by simp) _, _, rfl, _, _, _, _, _, _, rfl,
    Row.low (Row.set_ (Row.set_ R1.out (p := ⟨w.heap.size, 0, none⟩) ho1 _) (p := ⟨w.heap.size, 1, none⟩) ho1 _) (by omega), Row.low (Row.set_ (Row.set_ R2.out (p := ⟨w.heap.size, 0, none⟩) ho2 _) (p := ⟨w.heap.size, 1, none⟩) ho2 _) (by omega), HAP.out⟩
end Go.Proofs.YtphhhnjeojdnkaaGreatDoor

/-
  delta.forget; delta.Fresh on an empty cart.
-/
namespace Go.Proofs.YtphhhnjeojdnkaaGreatDoor
open Go.RowKit
def IsFg (b : Nat) (c : Ctx) (w : World) (v : Value) : Prop := ∃ A n ca B m cb, v = .agg #[.slice A n ca, .slice B m cb, .slice none 0 0] ∧ Row w b (.slice A n ca) c.1 ∧ Row w b (.slice B m cb) c.2
abbrev cartBox : Obj := .cells #[.slice none 0 0, .slice none 0 0, .slice none 0 0] 63
theorem cForget {w : World} {C : Option Addr} {ck : Nat} {d : Dot} (h : Dots w C 1 ck [d]) (hv : validD d = true) : Calls Tryz.prog 71 #[.slice C 1 ck] w (Ret w (IsFg w.heap.size (addC ([], []) [d]))) := by
  have hx : Below w.heap.size w (w.alloc cartBox) := (Below.refl _ _).alloc (Nat.le_refl _) _
  have C1 := Lib.hid (cOf (h.mono hx) hv)
  have z : ∀ o, o < 3 -> (w.alloc cartBox).cell? ⟨w.heap.size, o, none⟩ = some (.slice none 0 0) := fun o ho => by
    have : o = 0 ∨ o = 1 ∨ o = 2 := by omega
    rcases this with rfl | rfl | rfl <;> simp [go_sem]
  have f0 : ∀ o, (w.alloc cartBox).frozen? ⟨w.heap.size, o, none⟩ = false := fun o => by simp [go_sem]
  have HX := Lib.hid hx; have Z := Lib.hid z; have F0 := Lib.hid f0
  clear hx h hv z f0
  go_enter Tryz.func71, Tryz.ntmps71
  go_wp2_with fail
  refine C1.out.mono ?_
  rintro _ w1 ⟨_, rfl, hb1, x, rfl, hx⟩
  obtain ⟨A1, n1, c1, B1, m1, d1, rfl, r1, r2, hap⟩ := hx
  have hz0 : (w.alloc cartBox).heap.size = w.heap.size + 1 := by simp
  rw [hz0] at r1 r2
  have x0 := cellKeep hb1 (Z.out 0 (by omega))
  have x1 := cellKeep hb1 (Z.out 1 (by omega))
  have x2 := cellKeep hb1 (Z.out 2 (by omega))
  have hz : w.heap.size < w1.heap.size := World.block_lt_of_cell? w1 _ x0
  have yf : ∀ o, w1.frozen? ⟨w.heap.size, o, none⟩ = false := fun o => (hb1.frozen (p := ⟨w.heap.size, o, none⟩) (by simp)).trans (F0.out o)
  have yf0 := yf 0; have yf1 := yf 1; have yf2 := yf 2
  have HB := Lib.hid (HX.out.le hb1); have R1 := Lib.hid r1; have R2 := Lib.hid r2; have HZ := Lib.hid hz
  clear hb1 r1 r2 hap hz0 yf
  go_wp2
  obtain ⟨N, hN⟩ : ∃ N, N = w.heap.size := ⟨_, rfl⟩
  rw [<- hN] at x0 x1 x2 R1 R2 HZ ⊢
  have ho1 : ∀ j, (Value.slice A1 n1 c1).ownBlock = some j -> j ≠ N := fun j hj => by have := Row.own _ R1.out j hj; omega
  have ho2 : ∀ j, (Value.slice B1 m1 d1).ownBlock = some j -> j ≠ N := fun j hj => by have := Row.own _ R2.out j hj; omega
  have q1 := Row.set_ (Row.set_ (Row.set_ R1.out (p := ⟨N, 0, none⟩) ho1 (.slice A1 n1 c1)) (p := ⟨N, 1, none⟩) ho1 (.slice B1 m1 d1)) (p := ⟨N, 2, none⟩) ho1 (.slice none 0 0)
  have q2 := Row.set_ (Row.set_ (Row.set_ R2.out (p := ⟨N, 0, none⟩) ho2 (.slice A1 n1 c1)) (p := ⟨N, 1, none⟩) ho2 (.slice B1 m1 d1)) (p := ⟨N, 2, none⟩) ho2 (.slice none 0 0)
  have hb := ((HB.out.setCell (p := ⟨N, 0, none⟩) (Nat.le_of_eq hN.symm) (.slice A1 n1 c1)).setCell (p := ⟨N, 1, none⟩) (Nat.le_of_eq hN.symm) (.slice B1 m1 d1)).setCell (p := ⟨N, 2, none⟩) (Nat.le_of_eq hN.symm) (.slice none 0 0)
  have s0 : (((w1.setCell ⟨N, 0, none⟩ (.slice A1 n1 c1)).setCell ⟨N, 1, none⟩ (.slice B1 m1 d1)).setCell ⟨N, 2, none⟩ (.slice none 0 0)).cell? ⟨N, 0, none⟩ = some (.slice A1 n1 c1) := cell_far (by simp) (cell_far (by simp) (cell_set x0))
  have s1 : (((w1.setCell ⟨N, 0, none⟩ (.slice A1 n1 c1)).setCell ⟨N, 1, none⟩ (.slice B1 m1 d1)).setCell ⟨N, 2, none⟩ (.slice none 0 0)).cell? ⟨N, 1, none⟩ = some (.slice B1 m1 d1) := cell_far (by simp) (cell_set (cell_far (by simp) x1))
  have s2 : (((w1.setCell ⟨N, 0, none⟩ (.slice A1 n1 c1)).setCell ⟨N, 1, none⟩ (.slice B1 m1 d1)).setCell ⟨N, 2, none⟩ (.slice none 0 0)).cell? ⟨N, 2, none⟩ = some (.slice none 0 0) := cell_set (cell_far (by simp) (cell_far (by simp) x2))
  have hlt : N < (((w1.setCell ⟨N, 0, none⟩ (.slice A1 n1 c1)).setCell ⟨N, 1, none⟩ (.slice B1 m1 d1)).setCell ⟨N, 2, none⟩ (.slice none 0 0)).heap.size := by simp; exact HZ.out
  have e1 : w1.heap.size = (((w1.setCell ⟨N, 0, none⟩ (.slice A1 n1 c1)).setCell ⟨N, 1, none⟩ (.slice B1 m1 d1)).setCell ⟨N, 2, none⟩ (.slice none 0 0)).heap.size := by simp
  clear x0 x1 x2 yf0 yf1 yf2
  generalize ((w1.setCell ⟨N, 0, none⟩ (.slice A1 n1 c1)).setCell ⟨N, 1, none⟩ (.slice B1 m1 d1)).setCell ⟨N, 2, none⟩ (.slice none 0 0) = w2 at *
  have hal : Below w2.heap.size w2 (w2.alloc (.cells #[.slice A1 n1 c1, .slice B1 m1 d1] 60)) := (Below.refl _ _).alloc (Nat.le_refl _) _
  have t0 := cellKeep hal s0
  have t1 := cellKeep hal s1
  have t2 := cellKeep hal s2
  refine bodyPost_ret (v := .agg #[.slice A1 n1 c1, .slice B1 m1 d1, .slice none 0 0]) (by simp [results, Tryz.results71, go_sem, t0, t1, t2]) rfl ?_
  exact ⟨_, rfl, hb.le hal, _, _, _, _, _, _, rfl, (Row.low q1 (by omega)).mono hal, (Row.low q2 (by omega)).mono hal⟩
end Go.Proofs.YtphhhnjeojdnkaaGreatDoor

/-
  delta.Fresh, the closure of change.make, on an empty cart.
-/
namespace Go.Proofs.YtphhhnjeojdnkaaGreatDoor
open Go.RowKit
theorem hasNone {d : Dot} (h : validD d = true) : hasC ([], []) d = false := by
  have := validD_iff.1 h
  unfold hasC
  have h1 : hasV [] d = false := by
    cases e : hasV [] d with
    | false => rfl
    | true => have := (hasV_valid h).1 e; simp [getV] at this; omega
  simp [h1, memD]
theorem cFresh {r k : Int} (hv : validD (r, k) = true) (w : World) : Calls Tryz.prog 67 #[.agg #[.slice none 0 0, .slice none 0 0, .slice none 0 0], .agg #[.int .i64 r, .int .i64 k]] w (Ret w (IsB true)) := by
  have C1 := Lib.hid no_cv
  have C2 := Lib.hid (fun w => by have := dvalid r k w; rw [hv] at this; exact this)
  have C3 := Lib.hid (fun w => by have := chas r k none none 0 0 0 0 ([], []) w (noCon w); rw [hasNone hv] at this; exact this)
  have hx : Below w.heap.size w ((w.alloc cartBox).alloc (.cells #[.int .i64 r, .int .i64 k] 67)) := by go_grown
  have z0 : ((w.alloc cartBox).alloc (.cells #[.int .i64 r, .int .i64 k] 67)).cell? ⟨w.heap.size, 0, none⟩ = some (.slice none 0 0) := by simp [go_sem]
  have z1 : ((w.alloc cartBox).alloc (.cells #[.int .i64 r, .int .i64 k] 67)).cell? ⟨w.heap.size, 1, none⟩ = some (.slice none 0 0) := by simp [go_sem]
  have u0 : ((w.alloc cartBox).alloc (.cells #[.int .i64 r, .int .i64 k] 67)).cell? ⟨w.heap.size + 1, 0, none⟩ = some (.int .i64 r) := by simp [go_sem]
  have u1 : ((w.alloc cartBox).alloc (.cells #[.int .i64 r, .int .i64 k] 67)).cell? ⟨w.heap.size + 1, 1, none⟩ = some (.int .i64 k) := by simp [go_sem]
  have HX := Lib.hid hx; have Z0 := Lib.hid z0; have Z1 := Lib.hid z1; have U0 := Lib.hid u0; have U1 := Lib.hid u1
  clear hx z0 z1 u0 u1 hv
  go_enter Tryz.func67, Tryz.ntmps67
  go_wp2_with fail
  refine (C1.out _).mono ?_
  rintro _ w1 ⟨_, rfl, hb1, rfl⟩
  have HB1 := Lib.hid (HX.out.le hb1)
  have q0 := cellKeep hb1 Z0.out; have q1 := cellKeep hb1 Z1.out; have v0 := cellKeep hb1 U0.out; have v1 := cellKeep hb1 U1.out
  clear hb1
  go_wp2_with fail
  refine (C2.out _).mono ?_
  rintro _ w2 ⟨_, rfl, hb2, rfl⟩
  have HB2 := Lib.hid (HB1.out.le hb2)
  have p0 := cellKeep hb2 q0; have p1 := cellKeep hb2 q1; have x0 := cellKeep hb2 v0; have x1 := cellKeep hb2 v1
  clear hb2 q0 q1 v0 v1
  go_wp2_with fail
  refine (C3.out _).mono ?_
  rintro _ w3 ⟨_, rfl, hb3, rfl⟩
  have HB3 := Lib.hid (HB2.out.le hb3)
  clear hb3 p0 p1 x0 x1
  go_wp2
  go_ret
  exact retB rfl HB3.out
theorem cAlso {w : World} {X O K : Nat} (hx : w.cell? ⟨X, 1, none⟩ = some (.func (.func 39) #[] #[])) (ho : w.cell? ⟨O, 0, none⟩ = some (.slice none 0 0)) (hk : w.cell? ⟨K, 2, none⟩ = some (.slice none 0 0)) :
    Calls Tryz.prog 66 #[.pointer (some ⟨X, 0, none⟩), .pointer (some ⟨O, 0, none⟩), .pointer (some ⟨K, 0, none⟩)] w (Ret w (IsI 0)) := by
  go_enter Tryz.func66, Tryz.ntmps66
  go_wp2
  go_ret
  exact ⟨_, rfl, by go_grown, rfl⟩
end Go.Proofs.YtphhhnjeojdnkaaGreatDoor

/-
  delta.change.make, delta.Add on an empty cart.
-/
namespace Go.Proofs.YtphhhnjeojdnkaaGreatDoor
open Go.RowKit
abbrev nilV : Value := .slice none 0 0
abbrev chgBox (nm : List UInt8) : Obj := .cells #[strV nm, .func (.func 39) #[] #[]] 92
abbrev dotBox (r k : Int) : Obj := .cells #[.int .i64 r, .int .i64 k] 67
abbrev mkW (w : World) (nm : List UInt8) (r k : Int) : World := (((w.alloc (chgBox nm)).alloc cartBox).alloc (dotBox r k)).alloc cartBox
structure MkAt (N : Nat) (nm : List UInt8) (r k : Int) (w : World) : Prop where
  a0 : w.cell? ⟨N, 0, none⟩ = some (strV nm)
  a1 : w.cell? ⟨N, 1, none⟩ = some (.func (.func 39) #[] #[])
  b0 : w.cell? ⟨N + 1, 0, none⟩ = some nilV
  b1 : w.cell? ⟨N + 1, 1, none⟩ = some nilV
  b2 : w.cell? ⟨N + 1, 2, none⟩ = some nilV
  c0 : w.cell? ⟨N + 1 + 1, 0, none⟩ = some (.int .i64 r)
  c1 : w.cell? ⟨N + 1 + 1, 1, none⟩ = some (.int .i64 k)
  d0 : w.cell? ⟨N + 1 + 1 + 1, 0, none⟩ = some nilV
  d1 : w.cell? ⟨N + 1 + 1 + 1, 1, none⟩ = some nilV
  d2 : w.cell? ⟨N + 1 + 1 + 1, 2, none⟩ = some nilV
  fr : ∀ o, w.frozen? ⟨N + 1 + 1 + 1, o, none⟩ = false
theorem MkAt.mono {N : Nat} {nm : List UInt8} {r k : Int} {w w' : World} (h : MkAt N nm r k w) (hb : Below w.heap.size w w') : MkAt N nm r k w' :=
  ⟨cellKeep hb h.a0, cellKeep hb h.a1, cellKeep hb h.b0, cellKeep hb h.b1, cellKeep hb h.b2, cellKeep hb h.c0, cellKeep hb h.c1, cellKeep hb h.d0, cellKeep hb h.d1, cellKeep hb h.d2, fun o => (hb.frozen (p := ⟨N + 1 + 1 + 1, o, none⟩) (show N + 1 + 1 + 1 < w.heap.size from World.block_lt_of_cell? _ _ h.d0)).trans (h.fr o)⟩
theorem mkAt (w : World) (nm : List UInt8) (r k : Int) : MkAt w.heap.size nm r k (mkW w nm r k) :=
  ⟨by simp [go_sem], by simp [go_sem], by simp [go_sem], by simp [go_sem], by simp [go_sem], by simp [go_sem], by simp [go_sem], by simp [go_sem], by simp [go_sem], by simp [go_sem], fun o => by simp [go_sem]⟩
def NoDots (nm : List UInt8) : Prop := ∀ w, Calls Tryz.prog 65 #[noCart, strV nm] w (Ret w (Is nilV))
def IsCart1 (b : Nat) (c : Ctx) (nm : List UInt8) (mk : Mk) (w : World) (v : Value) : Prop := ∃ A n ca B m cb bi bm, v = .agg (cartA A n ca B m cb bi) ∧ Row w b (.slice A n ca) c.1 ∧ Row w b (.slice B m cb) c.2 ∧ b <= bi ∧ b <= bm ∧ I1 w bi bm nm mk
theorem I1.set_ {w : World} {bi bm : Nat} {nm : List UInt8} {m : Mk} (h : I1 w bi bm nm m) {p o : Nat} (h1 : p ≠ bi) (h2 : p ≠ bm) (v : Value) : I1 (w.setCell ⟨p, o, none⟩ v) bi bm nm m :=
  ⟨by simp; exact h.lt, cell_far (fun e => h1 (congrArg Addr.block e)) h.c0, cell_far (fun e => h1 (congrArg Addr.block e)) h.c1, ⟨by simp; exact h.mark.lt, cell_far (fun e => h2 (congrArg Addr.block e)) h.mark.c0, cell_far (fun e => h2 (congrArg Addr.block e)) h.mark.c1, cell_far (fun e => h2 (congrArg Addr.block e)) h.mark.c2, cell_far (fun e => h2 (congrArg Addr.block e)) h.mark.c3⟩⟩
theorem cMake {r k q : Int} {nm : List UInt8} (hv : validD (r, k) = true) (hq : qtyS q = true) (hn : NameOK nm) (hd : NoDots nm) (w : World) :
    Calls Tryz.prog 40 #[.agg #[strV nm, .func (.func 39) #[] #[]], .agg #[nilV, nilV, nilV], .agg #[.int .i64 r, .int .i64 k], .int .i64 q] w (Ret w (IsPair (IsCart1 w.heap.size (addC ([], []) [(r, k)]) nm ⟨r, k, q, 1⟩) 0)) := by
  have M := Lib.hid (mkAt w nm r k)
  have HX := Lib.hid (show Below w.heap.size w (mkW w nm r k) by go_grown)
  have HV := Lib.hid hv; have HQ := Lib.hid (fun w => by have := cqty q w; rw [hq] at this; exact this); have NM := Lib.hid hn; have ND := Lib.hid hd
  have CT := Lib.hid no_ct; have CF := Lib.hid (fun w => cFresh hv w)
  clear hv hq hn hd
  go_enter Tryz.func40, Tryz.ntmps40
  go_wp2_with fail
  refine (ND.out _).mono ?_
  rintro _ w1 ⟨_, rfl, hb1, rfl⟩
  have M1 := Lib.hid (M.out.mono hb1); have HB1 := Lib.hid (HX.out.le hb1)
  clear hb1
  obtain ⟨N, hN⟩ : ∃ N, N = w.heap.size := ⟨_, rfl⟩
  rw [<- hN] at M1 ⊢
  have EN := Lib.hid hN
  clear hN
  have ho : Below w1.heap.size w1 (w1.alloc (.cells #[nilV] 57)) := (Below.refl _ _).alloc (Nat.le_refl _) _
  have M2 := Lib.hid (M1.out.mono ho)
  have HB2 := Lib.hid (HB1.out.le ho)
  have OC := Lib.hid (show (w1.alloc (.cells #[nilV] 57)).cell? ⟨w1.heap.size, 0, none⟩ = some nilV by simp [go_sem])
  have a0 := M2.out.a0; have a1 := M2.out.a1; have b0 := M2.out.b0; have b1 := M2.out.b1; have b2 := M2.out.b2; have c0 := M2.out.c0; have c1 := M2.out.c1
  clear ho
  go_wp2_with fail
  refine (CF.out _).mono ?_
  rintro _ w2 ⟨_, rfl, hb2, rfl⟩
  have M3 := Lib.hid (M2.out.mono hb2); have HB3 := Lib.hid (HB2.out.le hb2); have OC3 := Lib.hid (cellKeep hb2 OC.out)
  clear hb2 a0 a1 b0 b1 b2 c0 c1
  have a0 := M3.out.a0
  go_wp2_with fail
  refine (NM.out _).mono ?_
  rintro _ w3 ⟨_, rfl, hb3, rfl⟩
  have M4 := Lib.hid (M3.out.mono hb3); have HB4 := Lib.hid (HB3.out.le hb3); have OC4 := Lib.hid (cellKeep hb3 OC3.out)
  clear hb3 a0
  go_wp2_with fail
  refine (HQ.out _).mono ?_
  rintro _ w4 ⟨_, rfl, hb4, rfl⟩
  have M5 := Lib.hid (M4.out.mono hb4); have HB5 := Lib.hid (HB4.out.le hb4); have OC5 := Lib.hid (cellKeep hb4 OC4.out)
  clear hb4
  go_wp2_with fail
  refine (cAlso M5.out.a1 OC5.out M5.out.b2).mono ?_
  rintro _ w5 ⟨_, rfl, hb5, rfl⟩
  have M6 := Lib.hid (M5.out.mono hb5); have HB6 := Lib.hid (HB5.out.le hb5); have OC6 := Lib.hid (cellKeep hb5 OC5.out)
  clear hb5
  have b0 := M6.out.b0; have b1 := M6.out.b1; have b2 := M6.out.b2
  go_wp2_with fail
  refine (CT.out _).mono ?_
  rintro _ w6 ⟨_, rfl, hb6, rfl⟩
  have M7 := Lib.hid (M6.out.mono hb6); have HB7 := Lib.hid (HB6.out.le hb6); have OC7 := Lib.hid (cellKeep hb6 OC6.out)
  clear hb6 b0 b1 b2
  have c0 := M7.out.c0; have c1 := M7.out.c1; have oc := OC7.out
  have D6 := Lib.hid (oneDots w6 (r, k) 67)
  go_wp2_with (first
    | (at_builtin; refine wpList_app (B := w6.heap.size) (v := .slice none 0 0) (l := []) (k := [(r, k)]) rfl rfl Tryz.underlying57 rfl rfl (Row.nil_ _ _) D6.out (by simp) (by simp <;> omega) ?_; intro v8 w8 r8 g8; have R8 := Lib.hid r8; have G8 := Lib.hid g8; clear r8 g8; obtain ⟨A8, c8, e8, hd8⟩ := Row.dots R8.out; simp only [List.nil_append] at hd8 e8; subst e8; have D8 := Lib.hid hd8; clear hd8)
    | fail)
  have hb68 : Below w6.heap.size w6 w8 := ((Below.refl _ _).alloc (Nat.le_refl _) _).grown G8.out (by simp <;> omega) (fun k hk => by simp [Value.ownBlock] at hk)
  have M8 := Lib.hid (M7.out.mono hb68); have HB8 := Lib.hid (HB7.out.le hb68)
  clear hb68 c0 c1 oc
  refine (cForget D8.out HV.out).mono ?_
  rintro _ w9 ⟨_, rfl, hb9, A, n, ca, B, m, cb, rfl, ra, rb⟩
  have M9 := Lib.hid (M8.out.mono hb9); have HB9 := Lib.hid (HB8.out.le hb9)
  have RA := Lib.hid ra; have RB := Lib.hid rb
  clear hb9 ra rb
  have a0 := M9.out.a0; have c0 := M9.out.c0; have c1 := M9.out.c1; have d0 := M9.out.d0; have d1 := M9.out.d1; have d2 := M9.out.d2
  have f0 := M9.out.fr 0; have f1 := M9.out.fr 1; have f2 := M9.out.fr 2
  have hN9 : N + 1 + 1 + 1 < w9.heap.size := World.block_lt_of_cell? _ _ M9.out.d0
  have hN9a : N + 1 + 1 + 1 < w9.heap.size + 1 := by omega
  have hN9b : N + 1 + 1 + 1 < w9.heap.size + 1 + 1 := by omega
  have hN9c : N + 1 + 1 + 1 < w9.heap.size + 1 + 1 + 1 := by omega
  have hN0 : N < w9.heap.size := World.block_lt_of_cell? _ _ M9.out.a0
  have hN2 : N + 1 + 1 < w9.heap.size := World.block_lt_of_cell? _ _ M9.out.c0
  go_wp2_with fail
  obtain ⟨p, hp⟩ : ∃ p, p = N + 1 + 1 + 1 := ⟨_, rfl⟩
  rw [<- hp] at d0 d1 d2 hN9 ⊢
  have hp8 : p < w8.heap.size := by rw [hp]; exact World.block_lt_of_cell? _ _ M8.out.d0
  have hpw : w.heap.size <= p := by have := EN.out; omega
  have ho1 : ∀ j, (Value.slice A n ca).ownBlock = some j -> j ≠ p := fun j hj => by have := Row.own _ RA.out j hj; omega
  have ho2 : ∀ j, (Value.slice B m cb).ownBlock = some j -> j ≠ p := fun j hj => by have := Row.own _ RB.out j hj; omega
  obtain ⟨I, hI⟩ : ∃ I, I = Value.slice (some ⟨w9.heap.size + 1 + 1, 0, none⟩) 1 1 := ⟨_, rfl⟩
  rw [<- hI]
  have q1 := Row.set_ (Row.set_ (Row.set_ RA.out (p := ⟨p, 0, none⟩) ho1 (.slice A n ca)) (p := ⟨p, 1, none⟩) ho1 (.slice B m cb)) (p := ⟨p, 2, none⟩) ho1 I
  have q2 := Row.set_ (Row.set_ (Row.set_ RB.out (p := ⟨p, 0, none⟩) ho2 (.slice A n ca)) (p := ⟨p, 1, none⟩) ho2 (.slice B m cb)) (p := ⟨p, 2, none⟩) ho2 I
  have hb := ((HB9.out.setCell (p := ⟨p, 0, none⟩) hpw (.slice A n ca)).setCell (p := ⟨p, 1, none⟩) hpw (.slice B m cb)).setCell (p := ⟨p, 2, none⟩) hpw I
  have s0 : (((w9.setCell ⟨p, 0, none⟩ (.slice A n ca)).setCell ⟨p, 1, none⟩ (.slice B m cb)).setCell ⟨p, 2, none⟩ I).cell? ⟨p, 0, none⟩ = some (.slice A n ca) := cell_far (by simp) (cell_far (by simp) (cell_set d0))
  have s1 : (((w9.setCell ⟨p, 0, none⟩ (.slice A n ca)).setCell ⟨p, 1, none⟩ (.slice B m cb)).setCell ⟨p, 2, none⟩ I).cell? ⟨p, 1, none⟩ = some (.slice B m cb) := cell_far (by simp) (cell_set (cell_far (by simp) d1))
  have s2 : (((w9.setCell ⟨p, 0, none⟩ (.slice A n ca)).setCell ⟨p, 1, none⟩ (.slice B m cb)).setCell ⟨p, 2, none⟩ I).cell? ⟨p, 2, none⟩ = some I := cell_set (cell_far (by simp) (cell_far (by simp) d2))
  have e1 : (((w9.setCell ⟨p, 0, none⟩ (.slice A n ca)).setCell ⟨p, 1, none⟩ (.slice B m cb)).setCell ⟨p, 2, none⟩ I).heap.size = w9.heap.size := by simp
  clear a0 c0 c1 d0 d1 d2 f0 f1 f2 hN9 hN9a hN9b hN9c hN0 hN2
  generalize ((w9.setCell ⟨p, 0, none⟩ (.slice A n ca)).setCell ⟨p, 1, none⟩ (.slice B m cb)).setCell ⟨p, 2, none⟩ I = wx at *
  have ha : Below wx.heap.size wx (((wx.alloc (.cells #[.slice A n ca, .slice B m cb, I] 63)).alloc (.cells #[.int .i64 r, .int .i64 k, .int .i64 q, .int .u64 1] 112)).alloc (.cells #[strV nm, .slice (some ⟨w9.heap.size + 1, 0, none⟩) 1 1] 115)) := by go_grown
  have t0 := cellKeep ha s0
  have t1 := cellKeep ha s1
  have t2 := cellKeep ha s2
  have item : I1 (((wx.alloc (.cells #[.slice A n ca, .slice B m cb, I] 63)).alloc (.cells #[.int .i64 r, .int .i64 k, .int .i64 q, .int .u64 1] 112)).alloc (.cells #[strV nm, .slice (some ⟨w9.heap.size + 1, 0, none⟩) 1 1] 115)) (w9.heap.size + 1 + 1) (w9.heap.size + 1) nm ⟨r, k, q, 1⟩ := by
    rw [<- e1]
    exact ⟨by simp, by simp [go_sem], by simp [go_sem], ⟨by simp, by simp [go_sem], by simp [go_sem], by simp [go_sem], by simp [go_sem]⟩⟩
  refine bodyPost_ret (v := .tuple #[.agg #[.slice A n ca, .slice B m cb, I], .int .i64 0]) (by simp [results, Tryz.results40, go_sem, t0, t1, t2]) rfl ?_
  have hw9 := HB9.out.size
  have hw8 := HB8.out.size
  exact ⟨_, rfl, hb.le ha, _, rfl, A, n, ca, B, m, cb, _, _, by rw [hI], (Row.low q1 hw8).mono ha, (Row.low q2 hw8).mono ha, by omega, by omega, item⟩
theorem cAdd {r k q : Int} {nm : List UInt8} (hv : validD (r, k) = true) (hq : qtyS q = true) (hn : NameOK nm) (hd : NoDots nm) (w : World) :
    Calls Tryz.prog 22 #[.agg #[nilV, nilV, nilV], .agg #[.int .i64 r, .int .i64 k], strV nm, .int .i64 q] w (Ret w (IsPair (IsCart1 w.heap.size (addC ([], []) [(r, k)]) nm ⟨r, k, q, 1⟩) 0)) := by
  have C := Lib.hid (cMake hv hq hn hd)
  clear hv hq hn hd
  go_enter Tryz.func22, Tryz.ntmps22
  go_wp2_with fail
  refine (C.out _).mono ?_
  rintro _ w1 ⟨_, rfl, hb1, x, rfl, A, n, ca, B, m, cb, bi, bm, rfl, ra, rb, hbi, hbm, hit⟩
  have hx : Below w.heap.size w (((w.alloc cartBox).alloc (dotBox r k)).alloc cartBox) := by go_grown
  have z : ∀ o, o < 3 -> (((w.alloc cartBox).alloc (dotBox r k)).alloc cartBox).cell? ⟨w.heap.size + 1 + 1, o, none⟩ = some nilV := fun o ho => by
    have : o = 0 ∨ o = 1 ∨ o = 2 := by omega
    rcases this with rfl | rfl | rfl <;> simp [go_sem]
  have hz : (((w.alloc cartBox).alloc (dotBox r k)).alloc cartBox).heap.size = w.heap.size + 1 + 1 + 1 := by simp
  have fz : ∀ o, w1.frozen? ⟨w.heap.size + 1 + 1, o, none⟩ = false := fun o => (hb1.frozen (p := ⟨w.heap.size + 1 + 1, o, none⟩) (by simp)).trans (by simp [go_sem])
  have x0 := cellKeep hb1 (z 0 (by omega))
  have x1 := cellKeep hb1 (z 1 (by omega))
  have x2 := cellKeep hb1 (z 2 (by omega))
  have f0 := fz 0; have f1 := fz 1; have f2 := fz 2
  rw [hz] at ra rb hbi hbm
  have HB := Lib.hid (hx.le hb1); have RA := Lib.hid ra; have RB := Lib.hid rb; have HBI := Lib.hid hbi; have HBM := Lib.hid hbm; have IT := Lib.hid hit
  clear hb1 ra rb hbi hbm hit hx z hz fz
  obtain ⟨N, hN⟩ : ∃ N, N = w.heap.size := ⟨_, rfl⟩
  rw [<- hN] at x0 x1 x2 f0 f1 f2 RA RB HBI HBM ⊢
  have EN := Lib.hid hN
  clear hN
  go_wp2
  obtain ⟨p, hp⟩ : ∃ p, p = N + 1 + 1 := ⟨_, rfl⟩
  rw [<- hp] at x0 x1 x2 f0 f1 f2 ⊢
  have hpw : w.heap.size <= p := by have := EN.out; omega
  have ho1 : ∀ j, (Value.slice A n ca).ownBlock = some j -> j ≠ p := fun j hj => by have := Row.own _ RA.out j hj; omega
  have ho2 : ∀ j, (Value.slice B m cb).ownBlock = some j -> j ≠ p := fun j hj => by have := Row.own _ RB.out j hj; omega
  have hbi : p ≠ bi := by have := HBI.out; omega
  have hbm : p ≠ bm := by have := HBM.out; omega
  have q1 := Row.set_ (Row.set_ (Row.set_ RA.out (p := ⟨p, 0, none⟩) ho1 (.slice A n ca)) (p := ⟨p, 1, none⟩) ho1 (.slice B m cb)) (p := ⟨p, 2, none⟩) ho1 (.slice (some ⟨bi, 0, none⟩) 1 1)
  have q2 := Row.set_ (Row.set_ (Row.set_ RB.out (p := ⟨p, 0, none⟩) ho2 (.slice A n ca)) (p := ⟨p, 1, none⟩) ho2 (.slice B m cb)) (p := ⟨p, 2, none⟩) ho2 (.slice (some ⟨bi, 0, none⟩) 1 1)
  have hb := ((HB.out.setCell (p := ⟨p, 0, none⟩) hpw (.slice A n ca)).setCell (p := ⟨p, 1, none⟩) hpw (.slice B m cb)).setCell (p := ⟨p, 2, none⟩) hpw (.slice (some ⟨bi, 0, none⟩) 1 1)
  have it := ((IT.out.set_ (o := 0) hbi hbm (.slice A n ca)).set_ (o := 1) hbi hbm (.slice B m cb)).set_ (o := 2) hbi hbm (.slice (some ⟨bi, 0, none⟩) 1 1)
  have s0 : (((w1.setCell ⟨p, 0, none⟩ (.slice A n ca)).setCell ⟨p, 1, none⟩ (.slice B m cb)).setCell ⟨p, 2, none⟩ (.slice (some ⟨bi, 0, none⟩) 1 1)).cell? ⟨p, 0, none⟩ = some (.slice A n ca) := cell_far (by simp) (cell_far (by simp) (cell_set x0))
  have s1 : (((w1.setCell ⟨p, 0, none⟩ (.slice A n ca)).setCell ⟨p, 1, none⟩ (.slice B m cb)).setCell ⟨p, 2, none⟩ (.slice (some ⟨bi, 0, none⟩) 1 1)).cell? ⟨p, 1, none⟩ = some (.slice B m cb) := cell_far (by simp) (cell_set (cell_far (by simp) x1))
  have s2 : (((w1.setCell ⟨p, 0, none⟩ (.slice A n ca)).setCell ⟨p, 1, none⟩ (.slice B m cb)).setCell ⟨p, 2, none⟩ (.slice (some ⟨bi, 0, none⟩) 1 1)).cell? ⟨p, 2, none⟩ = some (.slice (some ⟨bi, 0, none⟩) 1 1) := cell_set (cell_far (by simp) (cell_far (by simp) x2))
  refine bodyPost_ret (v := .tuple #[.agg #[.slice A n ca, .slice B m cb, .slice (some ⟨bi, 0, none⟩) 1 1], .int .i64 0]) (by simp [results, Tryz.results22, go_sem, s0, s1, s2]) rfl ?_
  exact ⟨_, rfl, hb, _, rfl, A, n, ca, B, m, cb, bi, bm, rfl, Row.low q1 (by have := EN.out; omega), Row.low q2 (by have := EN.out; omega), by have := HBI.out; have := EN.out; omega, by have := HBM.out; have := EN.out; omega, it⟩
theorem IsCart1.c1 {b : Nat} {c : Ctx} {nm : List UInt8} {mk : Mk} {w : World} {v : Value} (h : IsCart1 b c nm mk w v) : ∃ A n ca B m cb bi bm, v = .agg (cartA A n ca B m cb bi) ∧ C1 w A n ca B m cb c bi bm nm mk := by
  obtain ⟨A, n, ca, B, m, cb, bi, bm, rfl, ra, rb, _, _, hit⟩ := h
  exact ⟨A, n, ca, B, m, cb, bi, bm, rfl, ⟨Row.asDots ra, Row.asDots rb⟩, hit⟩
end Go.Proofs.YtphhhnjeojdnkaaGreatDoor

/-
  canon.seen: the bytes of the dots of a context.
-/
namespace Go.Proofs.YtphhhnjeojdnkaaGreatDoor
open Go.RowKit
def dotB (d : Dot) : List UInt8 := numB d.1.toNat ++ numB d.2.toNat
def dotsB (l : List Dot) : List UInt8 := numB l.length ++ l.flatMap dotB
theorem dots_wrote {b : Nat} {r : Option Nat} {w w' : World} {A : Option Addr} {n c : Nat} {l : List Dot} (h : Dots w A n c l) (hw : Wrote b r w w') (ho : Off (fun q => q ≠ b ∧ some q ≠ r) A l) : Dots w' A n c l :=
  ⟨h.len, h.cap, h.max, h.nil, fun i d hi => by
    obtain ⟨B, o, rfl, hlt, h1, h2⟩ := h.cell i d hi
    have hne : l ≠ [] := by rintro rfl; simp at hi
    have := ho hne ⟨B, o, none⟩ rfl
    exact ⟨B, o, rfl, Nat.lt_of_lt_of_le hlt hw.size, hw.cell h1 this.1 this.2, hw.cell h2 this.1 this.2⟩⟩
theorem dotB_len {d : Dot} (h : validD d = true) : (dotB d).length <= 20 := by
  obtain ⟨h1, h2, h3, h4⟩ := validD_iff.1 h
  unfold dotB
  rw [List.length_append]
  have := numB_ten (n := d.1.toNat) (by omega)
  have := numB_ten (n := d.2.toNat) (by omega)
  omega
theorem flat_len {l : List Dot} (h : ∀ d ∈ l, validD d = true) : (l.flatMap dotB).length <= 20 * l.length := by
  induction l with
  | nil => simp
  | cons d l ih =>
    rw [List.flatMap_cons, List.length_append, List.length_cons]
    have := dotB_len (h d (by simp))
    have := ih (fun e he => h e (by simp [he]))
    omega
theorem NewRow.ne {w : World} {r r' : Option Nat} {X : Nat} (h : NewRow w r r') (hX : X < w.heap.size) (hr : some X ≠ r) : some X ≠ r' := by
  rcases h with rfl | ⟨q, rfl, hq⟩
  · exact hr
  · intro e; have := Option.some.inj e; omega
theorem WAt.lt {b : Nat} {r : Option Nat} {L : List UInt8} {w : World} (h : WAt b r L w) : b < w.heap.size := by
  obtain ⟨⟨v, h1, _, _⟩, _, _⟩ := h
  exact World.block_lt_of_cell? _ _ h1
theorem WAt.rlt {b : Nat} {r : Option Nat} {L : List UInt8} {w : World} (h : WAt b r L w) {X : Nat} (hX : w.heap.size <= X) : some X ≠ r := by
  obtain ⟨⟨v, _, h2, h3⟩, _, _⟩ := h
  intro e
  have := (OwnSl.own h2 X (h3.trans e.symm)).2
  omega
def SeenRel (b : Nat) (r : Option Nat) (L : List UInt8) (l : List Dot) (n : Nat) (w : World) (i : Value) (wr : World) : Prop :=
  ∃ (k : Nat) (r' : Option Nat), i = .int .i64 k ∧ k <= n ∧ Wrote b r w wr ∧ WAt b r' (L ++ numB n ++ (l.take k).flatMap dotB) wr ∧ NewRow w r r'
theorem cSeen1 {b X n c : Nat} {r : Option Nat} {L : List UInt8} {A : Option Addr} {l : List Dot} {w : World} (hw : WAt b r L w) (hd : Dots w A n c l) (hx : w.cell? ⟨X, 0, none⟩ = some (.pointer (some ⟨b, 0, none⟩))) (hx1 : X ≠ b) (hx2 : some X ≠ r) (ho : Off (fun q => q ≠ b ∧ some q ≠ r) A l) (hl : ∀ d ∈ l, validD d = true) (hs : L.length + 20 * n <= 800000) :
    Calls Tryz.prog 192 #[.slice A n c, .pointer (some ⟨X, 0, none⟩)] w (WPost b r (L ++ dotsB l) w) := by
  have hn : n <= 1000000 := by omega
  have C := Lib.hid (wnum b r L n (by omega) w hw (by omega))
  have HD := Lib.hid hd; have HX := Lib.hid hx; have HX1 := Lib.hid hx1; have HX2 := Lib.hid hx2; have HO := Lib.hid ho; have HL := Lib.hid hl; have HS := Lib.hid hs; have HN := Lib.hid hd.len
  clear hw hd hx1 hx2 ho hl hs
  go_enter Tryz.func192, Tryz.ntmps192
  go_wp2_with fail
  refine C.out.mono ?_
  clear C hx
  rintro e w1 ⟨v1, r1, rfl, g1, g2, g3⟩
  have G1 := Lib.hid g1; have G2 := Lib.hid g2; have G3 := Lib.hid g3
  clear g1 g2 g3
  go_wp2_with fail
  go_loopw [12] (fun i wr => SeenRel b r L l n w i wr) (fun i _ => n - (intOf i).toNat)
  case atStart => exact ⟨0, r1, rfl, by omega, G1.out, by simpa using G2.out, G3.out⟩
  case round =>
    obtain ⟨k, r2, rfl, hk, g1, g2, g3⟩ := hrel
    have G4 := Lib.hid g1; have G5 := Lib.hid g2; have G6 := Lib.hid g3
    clear g1 g2 g3
    by_cases hlt : k < n
    · obtain ⟨B, o, x, y, rfl, hB, d1, d2, c1, c2⟩ := (dots_wrote HD.out G4.out HO.out).at_ hlt
      have D1 := Lib.hid d1; have D2 := Lib.hid d2
      obtain ⟨h1, h2, h3, h4⟩ := validD_iff.1 (HL.out (x, y) (List.mem_of_getElem? d1))
      obtain ⟨x', rfl⟩ := Int.eq_ofNat_of_zero_le (show 0 <= x by omega)
      obtain ⟨y', rfl⟩ := Int.eq_ofNat_of_zero_le (show 0 <= y by omega)
      have hx' : x' <= 65535 := by simp at h2; omega
      have hy' : y' <= 4294967295 := by simp at h4; omega
      clear h1 h2 h3 h4 d1 d2
      have x0 := G4.out.cell HX.out HX1.out HX2.out
      have hXs : X < wr.heap.size := World.block_lt_of_cell? _ _ x0
      have U := Lib.hid hx'; have Y := Lib.hid hy'
      have KL := Lib.hid (show (L ++ numB n ++ (l.take k).flatMap dotB).length <= 890000 by
        have t1 := flat_len (l := l.take k) (fun d hd => HL.out d (List.mem_of_mem_take hd))
        have t2 := numB_ten (n := n) (by omega)
        have t3 := HS.out
        have t4 : (l.take k).length <= n := by rw [List.length_take]; omega
        simp only [List.length_append]; omega)
      have HB := Lib.hid (show Below wr.heap.size wr (wr.alloc (.cells #[.int .i64 (x' : Int), .int .i64 (y' : Int)] 67)) by go_grown)
      have C1 := Lib.hid (wnum b r2 _ x' (by omega) (wr.alloc (.cells #[.int .i64 (x' : Int), .int .i64 (y' : Int)] 67)) (G5.out.mono HB.out) (by have := KL.out; omega))
      have HD2 := Lib.hid (show (wr.alloc (.cells #[.int .i64 (x' : Int), .int .i64 (y' : Int)] 67)).cell? ⟨wr.heap.size, 1, none⟩ = some (.int .i64 (y' : Int)) by simp [go_sem])
      go_wp2_with fail
      refine C1.out.mono ?_
      clear C1 x0 hXs c1 c2
      rintro e w2 ⟨v2, r3, rfl, g1, g2, g3⟩
      have hbn : wr.heap.size ≠ b := by have := G5.out.lt; omega
      have hrn : some wr.heap.size ≠ r2 := G5.out.rlt (Nat.le_refl _)
      have x0 := g1.cell (cellKeep HB.out (G4.out.cell HX.out HX1.out HX2.out)) HX1.out (G6.out.ne (World.block_lt_of_cell? _ _ HX.out) HX2.out)
      have y0 := g1.cell HD2.out hbn hrn
      have hXs : X < w2.heap.size := World.block_lt_of_cell? _ _ x0
      have hYs : wr.heap.size < w2.heap.size := World.block_lt_of_cell? _ _ y0
      have G7 := Lib.hid ((Wrote.ofBelow (b := b) (r := r2) HB.out).trans g1 (.inl rfl))
      have G8 := Lib.hid g2
      have G9 := Lib.hid (NewRow.trans (w := wr) (.inl rfl) HB.out.size g3)
      clear g1 g2 g3 hbn hrn
      have C2 := Lib.hid (wnum b r3 _ y' (by have := Y.out; omega) w2 G8.out (by rw [List.length_append]; have := KL.out; have := numB_ten (n := x') (by have := U.out; omega); omega))
      go_wp2_with fail
      refine C2.out.mono ?_
      clear C2 x0 y0 hXs hYs
      rintro e w3 ⟨v3, r4, rfl, g1, g2, g3⟩
      have G10 := Lib.hid ((G4.out.trans G7.out G6.out).trans g1 ((G6.out.trans G4.out.size G9.out)))
      have G11 := Lib.hid g2
      have G12 := Lib.hid ((G6.out.trans G4.out.size G9.out).trans (Nat.le_trans G4.out.size G7.out.size) g3)
      clear g1 g2 g3
      go_wp2
      go_roundw
      case rel =>
        refine ⟨k + 1, r4, by simp, hlt, G10.out, ?_, G12.out⟩
        have := G11.out
        have e : l.take (k + 1) = l.take k ++ [((x' : Int), (y' : Int))] := by rw [List.take_add_one, D1.out]; rfl
        rw [e, List.flatMap_append]
        simpa [dotB, List.append_assoc] using this
      case measure => simp [intOf]; omega
    · go_wp2
      refine bodyPost_end (v := .tuple #[]) (by simp [results, Tryz.results192]) rfl ?_
      have hk2 : k = n := by omega
      subst hk2
      refine ⟨_, r2, rfl, G4.out, ?_, G6.out⟩
      have := G5.out
      rw [List.take_of_length_le (by have := HN.out; omega), List.append_assoc] at this
      unfold dotsB; rw [<- HN.out]; exact this
end Go.Proofs.YtphhhnjeojdnkaaGreatDoor

/-
  canon.seen.
-/
namespace Go.Proofs.YtphhhnjeojdnkaaGreatDoor
open Go.RowKit
def ctxB (c : Ctx) : List UInt8 := dotsB c.1 ++ dotsB c.2
theorem dotsB_len {l : List Dot} (h : ∀ d ∈ l, validD d = true) (hl : l.length <= 1000000) : (dotsB l).length <= 10 + 20 * l.length := by
  unfold dotsB
  rw [List.length_append]
  have := flat_len h
  have := numB_ten (n := l.length) (by omega)
  omega
abbrev FarO (b : Nat) (r : Option Nat) : Nat -> Prop := fun q => q ≠ b ∧ some q ≠ r
theorem off_new {w : World} {b : Nat} {r r' : Option Nat} {A : Option Addr} {n c : Nat} {l : List Dot} (h : Dots w A n c l) (ho : Off (FarO b r) A l) (hr : NewRow w r r') : Off (FarO b r') A l := fun hl a ha => ⟨(ho hl a ha).1, hr.ne (h.lt hl a ha) (ho hl a ha).2⟩
abbrev seenW (w : World) (b : Nat) (A B : Option Addr) (n m ca cb : Nat) : World := (w.alloc (.cells #[.pointer (some ⟨b, 0, none⟩)] 129)).alloc (.cells #[.slice A n ca, .slice B m cb] 60)
theorem cSeen {b n m ca cb : Nat} {r : Option Nat} {L : List UInt8} {A B : Option Addr} {c : Ctx} {w : World} (hw : WAt b r L w) (h1 : Dots w A n ca c.1) (h2 : Dots w B m cb c.2) (o1 : Off (FarO b r) A c.1) (o2 : Off (FarO b r) B c.2) (v1 : ∀ d ∈ c.1, validD d = true) (v2 : ∀ d ∈ c.2, validD d = true) (hs : L.length + 20 * n + 20 * m <= 700000) :
    Calls Tryz.prog 146 #[.pointer (some ⟨b, 0, none⟩), .agg #[.slice A n ca, .slice B m cb]] w (WPost b r (L ++ ctxB c) w) := by
  have hb : Below w.heap.size w (seenW w b A B n m ca cb) := by go_grown
  have hx : (seenW w b A B n m ca cb).cell? ⟨w.heap.size, 0, none⟩ = some (.pointer (some ⟨b, 0, none⟩)) := by simp [go_sem]
  have hy : (seenW w b A B n m ca cb).cell? ⟨w.heap.size + 1, 1, none⟩ = some (.slice B m cb) := by simp [go_sem]
  have hy1 : w.heap.size + 1 ≠ b := by have := hw.lt; omega
  have hy2 : some (w.heap.size + 1) ≠ r := hw.rlt (Nat.le_succ _)
  have HY := Lib.hid hy; have HY1 := Lib.hid hy1; have HY2 := Lib.hid hy2
  clear hy hy1 hy2
  have hx1 : w.heap.size ≠ b := by have := hw.lt; omega
  have hx2 : some w.heap.size ≠ r := hw.rlt (Nat.le_refl _)
  have C1 := Lib.hid (cSeen1 (hw.mono hb) (h1.mono hb) hx hx1 hx2 o1 v1 (by omega))
  have HW := Lib.hid hw; have H1 := Lib.hid h1; have H2 := Lib.hid h2; have O1 := Lib.hid o1; have O2 := Lib.hid o2; have V1 := Lib.hid v1; have V2 := Lib.hid v2; have HS := Lib.hid hs; have HB := Lib.hid hb; have HX := Lib.hid hx; have HX1 := Lib.hid hx1; have HX2 := Lib.hid hx2
  clear hw h1 h2 o1 o2 v1 v2 hs hb hx hx1 hx2
  go_enter Tryz.func146, Tryz.ntmps146
  go_wp2_with fail
  refine C1.out.mono ?_
  clear C1
  rintro e w1 ⟨v1, r1, rfl, g1, g2, g3⟩
  have hsz : (seenW w b A B n m ca cb).heap.size = w.heap.size + 1 + 1 := by simp
  have C2 := Lib.hid (cSeen1 (A := B) (l := c.2) (n := m) (c := cb) (X := w.heap.size) g2 (dots_wrote (H2.out.mono HB.out) g1 O2.out) (g1.cell HX.out HX1.out HX2.out) HX1.out (g3.ne (by rw [hsz]; omega) HX2.out) (off_new (H2.out.mono HB.out) O2.out g3) V2.out (by
    have := HS.out; have := dotsB_len V1.out (by have := H1.out.len; omega); rw [List.length_append]; have := H1.out.len; omega))
  have G1 := Lib.hid ((Wrote.ofBelow (b := b) (r := r) HB.out).trans g1 (.inl rfl)); have G3 := Lib.hid (NewRow.trans (w := w) (.inl rfl) HB.out.size g3)
  have y0 := g1.cell HY.out HY1.out HY2.out
  have hYs : w.heap.size + 1 < w1.heap.size := World.block_lt_of_cell? _ _ y0
  clear g1 g2 g3 hsz
  go_wp2_with fail
  refine C2.out.mono ?_
  clear C2 y0 hYs
  rintro e w2 ⟨v2, r2, rfl, g1, g2, g3⟩
  have P := Lib.hid (show WPost b r (L ++ ctxB c) w (.returned (.tuple #[])) w2 from ⟨_, r2, rfl, G1.out.trans g1 G3.out, by unfold ctxB; rw [<- List.append_assoc]; exact g2, G3.out.trans G1.out.size g3⟩)
  clear g1 g2 g3
  go_wp2
  refine bodyPost_end (v := .tuple #[]) (by simp [results, Tryz.results146]) rfl ?_
  exact P.out
end Go.Proofs.YtphhhnjeojdnkaaGreatDoor

/-
  canon.whole at a cart of one item with one mark.
-/
namespace Go.Proofs.YtphhhnjeojdnkaaGreatDoor
open Go.RowKit
def Keeps (b : Nat) (r : Option Nat) (w : World) (cs : List (Addr × Value)) : Prop := ∀ p ∈ cs, w.cell? p.1 = some p.2 ∧ p.1.block ≠ b ∧ some p.1.block ≠ r
section
variable {b : Nat} {r r' : Option Nat} {w w' : World} {cs : List (Addr × Value)}
theorem Keeps.mono (h : Keeps b r w cs) (hb : Below w.heap.size w w') : Keeps b r w' cs := fun p hp => ⟨cellKeep hb (h p hp).1, (h p hp).2⟩
theorem Keeps.step (h : Keeps b r w cs) (hw : Wrote b r w w') (hn : NewRow w r r') : Keeps b r' w' cs := fun p hp =>
  ⟨hw.cell (h p hp).1 (h p hp).2.1 (h p hp).2.2, (h p hp).2.1, hn.ne (World.block_lt_of_cell? _ _ (h p hp).1) (h p hp).2.2⟩
theorem Keeps.nil_ : Keeps b r w [] := fun _ h => nomatch h
theorem Keeps.cons {a : Addr} {v : Value} (h : Keeps b r w cs) (h1 : w.cell? a = some v) (h2 : a.block ≠ b) (h3 : some a.block ≠ r) : Keeps b r w ((a, v) :: cs) := fun p hp => by
  rcases List.mem_cons.1 hp with rfl | hp
  · exact ⟨h1, h2, h3⟩
  · exact h p hp
theorem Keeps.at_ (h : Keeps b r w cs) (i : Nat) {a : Addr} {v : Value} (hi : cs[i]? = some (a, v)) : w.cell? a = some v := (h _ (List.mem_of_getElem? hi)).1
theorem Keeps.add {L : List UInt8} {a : Addr} {v : Value} (h : Keeps b r w cs) (hw : WAt b r L w) (hb : Below w.heap.size w w') (h1 : w'.cell? a = some v) (ha : w.heap.size <= a.block) : Keeps b r w' ((a, v) :: cs) :=
  (h.mono hb).cons h1 (by have := hw.lt; omega) (hw.rlt ha)
end
structure Wd (w0 : World) (b : Nat) (r0 : Option Nat) (r : Option Nat) (L : List UInt8) (w : World) : Prop where
  wrote : Wrote b r0 w0 w
  at_ : WAt b r L w
  new_ : NewRow w0 r0 r
section
variable {w0 w w' : World} {b : Nat} {r0 r r' : Option Nat} {L L' : List UInt8}
theorem Wd.start (h : WAt b r L w) : Wd w b r r L w := ⟨Wrote.ofBelow (Below.refl _ _), h, .inl rfl⟩
theorem Wd.mono (h : Wd w0 b r0 r L w) (hb : Below w.heap.size w w') : Wd w0 b r0 r L w' := ⟨h.wrote.trans (r' := r) (Wrote.ofBelow hb) h.new_, h.at_.mono hb, h.new_⟩
theorem Wd.step (h : Wd w0 b r0 r L w) (h1 : Wrote b r w w') (h2 : WAt b r' L' w') (h3 : NewRow w r r') : Wd w0 b r0 r' L' w' := ⟨h.wrote.trans h1 h.new_, h2, h.new_.trans h.wrote.size h3⟩
theorem Wd.post (h : Wd w0 b r0 r L w) : WPost b r0 L w0 (.returned (.tuple #[])) w := ⟨_, r, rfl, h.wrote, h.at_, h.new_⟩
end
def markB (m : Mk) : List UInt8 := numB m.r.toNat ++ numB m.k.toNat ++ numB m.q.toNat ++ numB m.t.toNat
def wholeB (c : Ctx) (nm : List UInt8) (m : Mk) : List UInt8 := ctxB c ++ numB 1 ++ strB nm ++ numB 1 ++ markB m
theorem idx4a (v0 v1 v2 v3 : Value) (w : World) : (Instr.index 197 (.agg #[v0, v1, v2, v3]) (.int .i64 0)).run Tryz.prog w = .ok v0 w := by
  simp [Instr.index, go_sem]
theorem idx4b (v0 v1 v2 v3 : Value) (w : World) : (Instr.index 197 (.agg #[v0, v1, v2, v3]) (.int .i64 1)).run Tryz.prog w = .ok v1 w := by
  simp [Instr.index, go_sem]
theorem idx4c (v0 v1 v2 v3 : Value) (w : World) : (Instr.index 197 (.agg #[v0, v1, v2, v3]) (.int .i64 2)).run Tryz.prog w = .ok v2 w := by
  simp [Instr.index, go_sem]
theorem idx4d (v0 v1 v2 v3 : Value) (w : World) : (Instr.index 197 (.agg #[v0, v1, v2, v3]) (.int .i64 3)).run Tryz.prog w = .ok v3 w := by
  simp [Instr.index, go_sem]
theorem wnum1 (b : Nat) (r : Option Nat) (l : List UInt8) (w : World) (hw : WAt b r l w) (hs : l.length <= 900000) : Calls Tryz.prog 42 #[.pointer (some ⟨b, 0, none⟩), .int .u64 1] w (WPost b r (l ++ numB 1) w) := wnum b r l 1 (by omega) w hw hs
theorem num1_len : (numB 1).length <= 10 := numB_ten (by omega)
theorem cWhole {b n m ca cb bi bm : Nat} {r : Option Nat} {L : List UInt8} {A B : Option Addr} {c : Ctx} {nm : List UInt8} {x k q t : Nat} {w : World} (hw : WAt b r L w) (h : C1 w A n ca B m cb c bi bm nm ⟨x, k, q, t⟩) (o1 : Off (FarO b r) A c.1) (o2 : Off (FarO b r) B c.2) (oi : FarO b r bi) (om : FarO b r bm) (v1 : ∀ d ∈ c.1, validD d = true) (v2 : ∀ d ∈ c.2, validD d = true) (hs : L.length + 20 * n + 20 * m + nm.length <= 600000) (hx : x <= 65535) (hk : k <= 4294967295) (hq : q <= 2147483647) (ht : t <= 1000) :
    Calls Tryz.prog 105 #[.pointer (some ⟨b, 0, none⟩), .agg (cartA A n ca B m cb bi)] w (WPost b r (L ++ wholeB c nm ⟨x, k, q, t⟩) w) := by
  obtain ⟨N, hN⟩ : ∃ N, N = w.heap.size := ⟨_, rfl⟩
  have hb : Below w.heap.size w (w.alloc (.cells (cartA A n ca B m cb bi) 63)) := by go_grown
  have K0 := ((((((Keeps.nil_ (b := b) (r := r) (w := w)).cons h.item.mark.c3 om.1 om.2).cons h.item.mark.c2 om.1 om.2).cons h.item.mark.c1 om.1 om.2).cons h.item.mark.c0 om.1 om.2).cons h.item.c1 oi.1 oi.2).cons h.item.c0 oi.1 oi.2
  have K1 : Hid (Keeps b r (w.alloc (.cells (cartA A n ca B m cb bi) 63)) [(⟨N, 2, none⟩, .slice (some ⟨bi, 0, none⟩) 1 1), (⟨bi, 0, none⟩, strV nm), (⟨bi, 1, none⟩, .slice (some ⟨bm, 0, none⟩) 1 1), (⟨bm, 0, none⟩, .int .i64 x), (⟨bm, 1, none⟩, .int .i64 k), (⟨bm, 2, none⟩, .int .i64 q), (⟨bm, 3, none⟩, .int .u64 t)]) := Lib.hid (K0.add hw hb (a := ⟨N, 2, none⟩) (v := .slice (some ⟨bi, 0, none⟩) 1 1) (by rw [hN]; simp [go_sem]) (show w.heap.size <= N by omega))
  have y0 : (w.alloc (.cells (cartA A n ca B m cb bi) 63)).cell? ⟨w.heap.size, 0, none⟩ = some (.slice A n ca) := by simp [go_sem]
  have y1 : (w.alloc (.cells (cartA A n ca B m cb bi) 63)).cell? ⟨w.heap.size, 1, none⟩ = some (.slice B m cb) := by simp [go_sem]
  have W1 := Lib.hid ((Wd.start hw).mono hb)
  have CL := Lib.hid (show (ctxB c).length <= 20 + 20 * n + 20 * m by
    have h1 := h.con.v.len; have h2 := h.con.k.len
    have := dotsB_len v1 (by omega); have := dotsB_len v2 (by omega); unfold ctxB; rw [List.length_append]; omega)
  have C := Lib.hid (cSeen (hw.mono hb) (h.con.v.mono hb) (h.con.k.mono hb) o1 o2 v1 v2 (by omega))
  have HS := Lib.hid hs; have HX := Lib.hid hx; have HK := Lib.hid hk; have HQ := Lib.hid hq; have HT := Lib.hid ht
  have EN := Lib.hid hN
  clear hw h o1 o2 oi om v1 v2 hs hx hk hq ht hb K0 hN y0 y1
  go_enter Tryz.func105, Tryz.ntmps105
  go_wp2_with fail
  refine C.out.mono ?_
  clear C
  rintro e w1 ⟨u1, r1, rfl, g1, g2, g3⟩
  have W2 := Lib.hid (W1.out.step g1 g2 g3); have K2 := Lib.hid (K1.out.step g1 g3)
  clear g1 g2 g3
  rw [<- EN.out]
  have z0 := K2.out.at_ 0 rfl
  have hNs : N < w1.heap.size := World.block_lt_of_cell? _ _ z0
  have n1 := Lib.hid num1_len
  go_wp2_with fail
  refine (wnum1 b r1 _ w1 W2.out.at_ (by rw [List.length_append]; have := HS.out; have := CL.out; omega)).mono ?_
  clear z0 hNs
  rintro e w2 ⟨u2, r2, rfl, g1, g2, g3⟩
  have W3 := Lib.hid (W2.out.step g1 g2 g3); have K3 := Lib.hid (K2.out.step g1 g3)
  clear g1 g2 g3
  have z0 := K3.out.at_ 0 rfl; have z1 := K3.out.at_ 1 rfl; have z2 := K3.out.at_ 2 rfl
  have hNs : N < w2.heap.size := World.block_lt_of_cell? _ _ z0
  have hIs : bi < w2.heap.size := World.block_lt_of_cell? _ _ z1
  go_wp2
  refine wp_loop_rounds 2 ?_
  rw [rounds_succ]
  obtain ⟨J, hJ⟩ : ∃ J, J = w2.heap.size := ⟨_, rfl⟩
  have hb2 : Below w2.heap.size w2 (w2.alloc (.cells #[strV nm, .slice (some ⟨bm, 0, none⟩) 1 1] 115)) := by go_grown
  have W4 := Lib.hid (W3.out.mono hb2)
  have K4 := Lib.hid (K3.out.add W3.out.at_ hb2 (a := ⟨J, 1, none⟩) (v := .slice (some ⟨bm, 0, none⟩) 1 1) (by rw [hJ]; simp [go_sem]) (show w2.heap.size <= J by omega))
  have EJ := Lib.hid hJ
  clear hJ hb2
  go_wp2_with fail
  rw [<- EJ.out]
  refine (wstr b r2 _ nm _ W4.out.at_ (by simp only [List.length_append]; have := HS.out; have := CL.out; have := n1.out; omega)).mono ?_
  clear z0 z1 z2 hNs hIs
  rintro e w3 ⟨u3, r3, rfl, g1, g2, g3⟩
  have W5 := Lib.hid (W4.out.step g1 g2 g3); have K5 := Lib.hid (K4.out.step g1 g3)
  clear g1 g2 g3
  have z0 := K5.out.at_ 0 rfl
  have hJs : J < w3.heap.size := World.block_lt_of_cell? _ _ z0
  have SL := Lib.hid (show (strB nm).length <= 10 + nm.length by unfold strB; rw [List.length_append]; have := numB_ten (n := nm.length) (by have := HS.out; omega); omega)
  go_wp2_with fail
  refine (wnum1 b r3 _ w3 W5.out.at_ (by simp only [List.length_append]; have := HS.out; have := CL.out; have := n1.out; have := SL.out; omega)).mono ?_
  clear z0 hJs
  rintro e w4 ⟨u4, r4, rfl, g1, g2, g3⟩
  have W6 := Lib.hid (W5.out.step g1 g2 g3); have K6 := Lib.hid (K5.out.step g1 g3)
  clear g1 g2 g3
  have z0 := K6.out.at_ 0 rfl; have z1 := K6.out.at_ 4 rfl; have z2 := K6.out.at_ 5 rfl; have z3 := K6.out.at_ 6 rfl; have z4 := K6.out.at_ 7 rfl
  have hJs : J < w4.heap.size := World.block_lt_of_cell? _ _ z0
  have hMs : bm < w4.heap.size := World.block_lt_of_cell? _ _ z1
  go_wp2
  refine wp_loop_rounds 2 ?_
  rw [rounds_succ]
  have ia := idx4a (.int .u64 x) (.int .u64 k) (.int .u64 q) (.int .u64 t)
  have ib := idx4b (.int .u64 x) (.int .u64 k) (.int .u64 q) (.int .u64 t)
  have ic := idx4c (.int .u64 x) (.int .u64 k) (.int .u64 q) (.int .u64 t)
  have id := idx4d (.int .u64 x) (.int .u64 k) (.int .u64 q) (.int .u64 t)
  have hx := HX.out; have hk := HK.out; have hq := HQ.out; have ht := HT.out
  go_wp2_with fail
  refine wp_loop_rounds 5 ?_
  rw [rounds_succ]
  have hb4 : Below w4.heap.size w4 (w4.alloc (.cells #[.int .i64 x, .int .i64 k, .int .i64 q, .int .u64 t] 112)) := by go_grown
  have W7 := Lib.hid (W6.out.mono hb4)
  clear hb4 z0 z1 z2 z3 z4 hJs hMs
  have n10 := Lib.hid (numB_ten (n := x) (by omega)); have n11 := Lib.hid (numB_ten (n := k) (by omega)); have n12 := Lib.hid (numB_ten (n := q) (by omega))
  go_wp2_with fail
  refine (wnum b r4 _ x (by omega) _ W7.out.at_ (by simp only [List.length_append]; have := HS.out; have := CL.out; have := n1.out; have := SL.out; omega)).mono ?_
  rintro e w5 ⟨u5, r5, rfl, g1, g2, g3⟩
  have W8 := Lib.hid (W7.out.step g1 g2 g3)
  clear g1 g2 g3
  go_wp2_with fail
  rw [rounds_succ]
  go_wp2_with fail
  refine (wnum b r5 _ k (by omega) _ W8.out.at_ (by simp only [List.length_append]; have := HS.out; have := CL.out; have := n1.out; have := SL.out; have := n10.out; have := n11.out; have := n12.out; omega)).mono ?_
  rintro e w6 ⟨u6, r6, rfl, g1, g2, g3⟩
  have W9 := Lib.hid (W8.out.step g1 g2 g3)
  clear g1 g2 g3
  go_wp2_with fail
  rw [rounds_succ]
  go_wp2_with fail
  refine (wnum b r6 _ q (by omega) _ W9.out.at_ (by simp only [List.length_append]; have := HS.out; have := CL.out; have := n1.out; have := SL.out; have := n10.out; have := n11.out; have := n12.out; omega)).mono ?_
  rintro e w7 ⟨u7, r7, rfl, g1, g2, g3⟩
  have W10 := Lib.hid (W9.out.step g1 g2 g3)
  clear g1 g2 g3
  go_wp2_with fail
  rw [rounds_succ]
  go_wp2_with fail
  refine (wnum b r7 _ t (by omega) _ W10.out.at_ (by simp only [List.length_append]; have := HS.out; have := CL.out; have := n1.out; have := SL.out; have := n10.out; have := n11.out; have := n12.out; omega)).mono ?_
  rintro e w8 ⟨u8, r8, rfl, g1, g2, g3⟩
  have W11 := Lib.hid (W10.out.step g1 g2 g3)
  clear g1 g2 g3
  go_wp2_with fail
  rw [rounds_succ]
  go_wp2_with fail
  rw [rounds_succ]
  go_wp2
  rw [rounds_succ]
  go_wp2
  refine bodyPost_end (v := .tuple #[]) (by simp [results, Tryz.results105]) rfl ?_
  have := W11.out.post
  simpa [wholeB, markB, List.append_assoc] using this
end Go.Proofs.YtphhhnjeojdnkaaGreatDoor

/-
  canon.Append, canon.Encode at a cart of one item with one mark.
-/
namespace Go.Proofs.YtphhhnjeojdnkaaGreatDoor
open Go.RowKit
theorem nilSl (w : World) : Sl encB w none 0 0 [] := ⟨rfl, Nat.le_refl _, by unfold maxLen; omega, fun _ => rfl, fun i x h => by simp at h⟩
abbrev wrBox : Obj := .cells #[.slice none 0 0] 96
theorem newWriter (w : World) : WAt w.heap.size none [] (w.alloc wrBox) :=
  ⟨⟨.slice none 0 0, by simp [go_sem], OwnSl.nil_ _ _ _ _, rfl⟩, by simp, by simp [go_sem]⟩
structure CartOK (w : World) (A : Option Addr) (n ca : Nat) (B : Option Addr) (m cb : Nat) (c : Ctx) (bi bm : Nat) (nm : List UInt8) (x k q t : Nat) : Prop where
  at_ : C1 w A n ca B m cb c bi bm nm ⟨x, k, q, t⟩
  ok : C1ok c nm ⟨x, k, q, t⟩
  v1 : ∀ d ∈ c.1, validD d = true
  v2 : ∀ d ∈ c.2, validD d = true
  small : 20 * n + 20 * m + nm.length <= 100000
  hx : x <= 65535
  hk : k <= 4294967295
  hq : q <= 2147483647
  ht : t <= 1000
theorem CartOK.mono {w w' : World} {A B : Option Addr} {n ca m cb bi bm x k q t : Nat} {c : Ctx} {nm : List UInt8} (h : CartOK w A n ca B m cb c bi bm nm x k q t) (hb : Below w.heap.size w w') : CartOK w' A n ca B m cb c bi bm nm x k q t := ⟨h.at_.mono hb, h.ok, h.v1, h.v2, h.small, h.hx, h.hk, h.hq, h.ht⟩
theorem CartOK.keeps {w : World} {A B : Option Addr} {n ca m cb bi bm x k q t : Nat} {c : Ctx} {nm : List UInt8} (h : CartOK w A n ca B m cb c bi bm nm x k q t) {b : Nat} (hb : w.heap.size <= b) : Off (FarO b none) A c.1 ∧ Off (FarO b none) B c.2 ∧ FarO b none bi ∧ FarO b none bm := by
  have h1 := h.at_.item.lt; have h2 := h.at_.item.mark.lt
  refine ⟨h.at_.con.v.off fun i hi => ⟨by omega, by simp⟩, h.at_.con.k.off fun i hi => ⟨by omega, by simp⟩, ⟨by omega, by simp⟩, ⟨by omega, by simp⟩⟩
abbrev FarAll (b : Nat) (r : Option Nat) (A B : Option Addr) (c : Ctx) (bi bm : Nat) : Prop := Off (FarO b r) A c.1 ∧ Off (FarO b r) B c.2 ∧ FarO b r bi ∧ FarO b r bm
theorem CartOK.wrote {w w' : World} {A B : Option Addr} {n ca m cb bi bm x k q t : Nat} {c : Ctx} {nm : List UInt8} (h : CartOK w A n ca B m cb c bi bm nm x k q t) {b : Nat} {r : Option Nat} (hw : Wrote b r w w') (f : FarAll b r A B c bi bm) : CartOK w' A n ca B m cb c bi bm nm x k q t :=
  ⟨⟨⟨dots_wrote h.at_.con.v hw f.1, dots_wrote h.at_.con.k hw f.2.1⟩, ⟨Nat.lt_of_lt_of_le h.at_.item.lt hw.size, hw.cell h.at_.item.c0 f.2.2.1.1 f.2.2.1.2, hw.cell h.at_.item.c1 f.2.2.1.1 f.2.2.1.2,
    ⟨Nat.lt_of_lt_of_le h.at_.item.mark.lt hw.size, hw.cell h.at_.item.mark.c0 f.2.2.2.1 f.2.2.2.2, hw.cell h.at_.item.mark.c1 f.2.2.2.1 f.2.2.2.2, hw.cell h.at_.item.mark.c2 f.2.2.2.1 f.2.2.2.2, hw.cell h.at_.item.mark.c3 f.2.2.2.1 f.2.2.2.2⟩⟩⟩, h.ok, h.v1, h.v2, h.small, h.hx, h.hk, h.hq, h.ht⟩
theorem CartOK.far {w : World} {A B : Option Addr} {n ca m cb bi bm x k q t : Nat} {c : Ctx} {nm : List UInt8} (h : CartOK w A n ca B m cb c bi bm nm x k q t) {b : Nat} {r r' : Option Nat} (f : FarAll b r A B c bi bm) (hr : NewRow w r r') : FarAll b r' A B c bi bm :=
  ⟨off_new h.at_.con.v f.1 hr, off_new h.at_.con.k f.2.1 hr, ⟨f.2.2.1.1, hr.ne h.at_.item.lt f.2.2.1.2⟩, ⟨f.2.2.2.1, hr.ne h.at_.item.mark.lt f.2.2.2.2⟩⟩
theorem wholeB_len {w : World} {A B : Option Addr} {n ca m cb bi bm x k q t : Nat} {c : Ctx} {nm : List UInt8} (h : CartOK w A n ca B m cb c bi bm nm x k q t) : (wholeB c nm ⟨x, k, q, t⟩).length <= 100200 := by
  have h1 := h.at_.con.v.len; have h2 := h.at_.con.k.len; have h3 := h.small; have := h.hx; have := h.hk; have := h.hq; have := h.ht
  have := dotsB_len h.v1 (by omega); have := dotsB_len h.v2 (by omega)
  have := numB_ten (n := 1) (by omega); have := numB_ten (n := nm.length) (by omega)
  have := numB_ten (n := x) (by omega); have := numB_ten (n := k) (by omega); have := numB_ten (n := q) (by omega); have := numB_ten (n := t) (by omega)
  simp only [wholeB, ctxB, markB, strB, List.length_append, Int.toNat_natCast]; omega
theorem cCanApp {n m ca cb bi bm : Nat} {A B : Option Addr} {c : Ctx} {nm : List UInt8} {x k q t : Nat} {w : World} (h : CartOK w A n ca B m cb c bi bm nm x k q t) :
    Calls Tryz.prog 75 #[.slice none 0 0, .agg (cartA A n ca B m cb bi)] w (Ret w (IsPair (IsOwnB w.heap.size (wholeB c nm ⟨x, k, q, t⟩)) 0)) := by
  obtain ⟨M, hM⟩ : ∃ M, M = w.heap.size := ⟨_, rfl⟩
  have hx : Below w.heap.size w (w.alloc (.cells (cartA A n ca B m cb bi) 63)) := by go_grown
  have y0 : (w.alloc (.cells (cartA A n ca B m cb bi) 63)).cell? ⟨M, 0, none⟩ = some (.slice A n ca) := by rw [hM]; simp [go_sem]
  have y1 : (w.alloc (.cells (cartA A n ca B m cb bi) 63)).cell? ⟨M, 1, none⟩ = some (.slice B m cb) := by rw [hM]; simp [go_sem]
  have y2 : (w.alloc (.cells (cartA A n ca B m cb bi) 63)).cell? ⟨M, 2, none⟩ = some (.slice (some ⟨bi, 0, none⟩) 1 1) := by rw [hM]; simp [go_sem]
  have CV := Lib.hid (cValid1 (h.at_.mono hx) h.ok)
  have H := Lib.hid (h.mono hx); have BX := Lib.hid hx; have Y0 := Lib.hid y0; have Y1 := Lib.hid y1; have Y2 := Lib.hid y2
  have EM : Hid (w.heap.size = M) := Lib.hid hM.symm
  clear h hx y0 y1 y2 hM
  go_enter Tryz.func75, Tryz.ntmps75
  go_wp2_with fail
  rw [EM.out]
  refine CV.out.mono ?_
  clear CV
  rintro _ w1 ⟨_, rfl, hb1, rfl⟩
  have H1 := Lib.hid (H.out.mono hb1)
  have B1 := Lib.hid (BX.out.le hb1)
  obtain ⟨N, hN⟩ : ∃ N, N = w1.heap.size := ⟨_, rfl⟩
  have nw : WAt N none [] (w1.alloc wrBox) := by rw [hN]; exact newWriter w1
  have EN : Hid (w1.heap.size = N) := Lib.hid hN.symm
  have hb2 : Below w1.heap.size w1 (w1.alloc wrBox) := by go_grown
  have W0 := Lib.hid nw
  have H2 := Lib.hid (H1.out.mono hb2); have B2 := Lib.hid (B1.out.le hb2)
  have K0 := (((Keeps.nil_ (b := N) (r := none) (w := w1)).cons (cellKeep hb1 Y2.out) (show M ≠ N by have := World.block_lt_of_cell? _ _ (cellKeep hb1 Y2.out); simp at this; omega) (by simp)).cons (cellKeep hb1 Y1.out) (show M ≠ N by have := World.block_lt_of_cell? _ _ (cellKeep hb1 Y2.out); simp at this; omega) (by simp)).cons (cellKeep hb1 Y0.out) (show M ≠ N by have := World.block_lt_of_cell? _ _ (cellKeep hb1 Y2.out); simp at this; omega) (by simp)
  have K1 := Lib.hid (K0.mono hb2)
  have FO := Lib.hid (H1.out.keeps (b := N) (by omega))
  have WN := Lib.hid (show w.heap.size <= N by have := B1.out.size; omega)
  clear nw hN hb2 K0 hb1 H H1
  go_wp2_with fail
  rw [EN.out]
  refine (wput N none [] [] none 0 0 _ (nilSl _) W0.out (by simp)).mono ?_
  rintro e w2 ⟨u2, r2, rfl, g1, g2, g3⟩
  have H3 := Lib.hid (H2.out.wrote g1 FO.out)
  have F3 := Lib.hid (H2.out.far FO.out g3)
  have W1 := Lib.hid ((Wd.start W0.out).step g1 g2 g3)
  have K2 := Lib.hid (K1.out.step g1 g3)
  clear g1 g2 g3
  have z0 := K2.out.at_ 0 rfl; have z1 := K2.out.at_ 1 rfl; have z2 := K2.out.at_ 2 rfl
  have hMs : M < w2.heap.size := World.block_lt_of_cell? _ _ z0
  go_wp2_with fail
  refine (cWhole W1.out.at_ H3.out.at_ F3.out.1 F3.out.2.1 F3.out.2.2.1 F3.out.2.2.2 H3.out.v1 H3.out.v2 (by have := H3.out.small; simp; omega) H3.out.hx H3.out.hk H3.out.hq H3.out.ht).mono ?_
  clear z0 z1 z2 hMs
  rintro e w3 ⟨u3, r3, rfl, g1, g2, g3⟩
  have W2 := Lib.hid (W1.out.step g1 g2 g3)
  have WL := Lib.hid (wholeB_len H3.out)
  clear g1 g2 g3
  go_wp2_with fail
  refine (wbytes N r3 _ w3 W2.out.at_ (by have := WL.out; simp; omega)).mono ?_
  rintro e w4 ⟨u4, rfl, hb4, ho⟩
  have hs3 : w.heap.size <= w3.heap.size := by have := W2.out.wrote.size; have := B2.out.size; omega
  have HO := Lib.hid (show IsOwnB w.heap.size (wholeB c nm ⟨x, k, q, t⟩) w4 u4 by have := ho; simp only [List.nil_append] at this; exact OwnSl.low this hs3)
  have B4 := Lib.hid ((B2.out.trans (W2.out.wrote.below B2.out.size WN.out (fun _ e => nomatch e))).le hb4)
  clear hb4 ho hs3
  go_wp2
  refine bodyPost_ret (v := .tuple #[u4, .int .i64 0]) (by simp [results, Tryz.results75, go_sem]) rfl ?_
  exact ⟨_, rfl, B4.out, _, rfl, HO.out⟩
theorem cCanEnc {n m ca cb bi bm : Nat} {A B : Option Addr} {c : Ctx} {nm : List UInt8} {x k q t : Nat} {w : World} (h : CartOK w A n ca B m cb c bi bm nm x k q t) :
    Calls Tryz.prog 44 #[.agg (cartA A n ca B m cb bi)] w (Ret w (IsPair (IsOwnB w.heap.size (wholeB c nm ⟨x, k, q, t⟩)) 0)) := by
  have hx : Below w.heap.size w (w.alloc (.cells (cartA A n ca B m cb bi) 63)) := by go_grown
  have C := Lib.hid (cCanApp (h.mono hx))
  have BX := Lib.hid hx
  clear h hx
  go_enter Tryz.func44, Tryz.ntmps44
  go_wp2_with fail
  refine C.out.mono ?_
  clear C
  rintro _ w1 ⟨_, rfl, hb1, u, rfl, ho⟩
  have HB := Lib.hid (BX.out.le hb1); have HO := Lib.hid (OwnSl.low ho BX.out.size)
  clear hb1 ho
  go_wp2
  refine bodyPost_ret (v := .tuple #[u, .int .i64 0]) (by simp [results, Tryz.results44, go_sem]) rfl ?_
  exact ⟨_, rfl, HB.out, _, rfl, HO.out⟩
end Go.Proofs.YtphhhnjeojdnkaaGreatDoor

/-
  batch.ordered, batch.Valid at one entry.
-/
namespace Go.Proofs.YtphhhnjeojdnkaaGreatDoor
open Go.RowKit
def KeyOK (ky : List UInt8) : Prop := ∀ w, Calls Tryz.prog 103 #[strV ky] w (Ret w (IsB true))
abbrev entA (ky : List UInt8) (A : Option Addr) (n ca : Nat) (B : Option Addr) (m cb bi : Nat) : Array Value := #[strV ky, .slice A n ca, .slice B m cb, .slice (some ⟨bi, 0, none⟩) 1 1]
structure E1 (w : World) (be : Nat) (ky : List UInt8) (A : Option Addr) (n ca : Nat) (B : Option Addr) (m cb bi : Nat) : Prop where
  c0 : w.cell? ⟨be, 0, none⟩ = some (strV ky)
  c1 : w.cell? ⟨be, 1, none⟩ = some (.slice A n ca)
  c2 : w.cell? ⟨be, 2, none⟩ = some (.slice B m cb)
  c3 : w.cell? ⟨be, 3, none⟩ = some (.slice (some ⟨bi, 0, none⟩) 1 1)
theorem E1.mono {w w' : World} {be n ca m cb bi : Nat} {ky : List UInt8} {A B : Option Addr} (h : E1 w be ky A n ca B m cb bi) (hb : Below w.heap.size w w') : E1 w' be ky A n ca B m cb bi := ⟨cellKeep hb h.c0, cellKeep hb h.c1, cellKeep hb h.c2, cellKeep hb h.c3⟩
theorem newE1 (w : World) (ky : List UInt8) (A : Option Addr) (n ca : Nat) (B : Option Addr) (m cb bi : Nat) (ty : TypeId) : E1 (w.alloc (.cells (entA ky A n ca B m cb bi) ty)) w.heap.size ky A n ca B m cb bi := ⟨by simp [go_sem], by simp [go_sem], by simp [go_sem], by simp [go_sem]⟩
section
variable {w0 w : World} {N : Nat}
theorem field_e0 : (Instr.fieldAt 71 (.pointer (some ⟨N, 0, none⟩)) 0).run Tryz.prog w = .ok (.pointer (some ⟨N, 0, none⟩)) w := by simp [go_sem]
theorem field_e1 : (Instr.fieldAt 71 (.pointer (some ⟨N, 0, none⟩)) 1).run Tryz.prog w = .ok (.pointer (some ⟨N, 1, none⟩)) w := by simp [go_sem]
theorem load_ky {ky : List UInt8} (hb : Below w0.heap.size w0 w) (h0 : w0.cell? ⟨N, 0, none⟩ = some (strV ky)) : (Instr.loadAt 9 (.pointer (some ⟨N, 0, none⟩))).run Tryz.prog w = .ok (strV ky) w := by
  have c1 := cellKeep hb h0
  simp [go_sem, c1]
theorem load_ecart {A B : Option Addr} {n ca m cb bi : Nat} {ky : List UInt8} (h : E1 w N ky A n ca B m cb bi) : (Instr.loadAt 63 (.pointer (some ⟨N, 1, none⟩))).run Tryz.prog w = .ok (.agg (cartA A n ca B m cb bi)) w := by
  have c1 := h.c1; have c2 := h.c2; have c3 := h.c3
  simp [go_sem, c1, c2, c3]
end
theorem enters103 : Enters Tryz.prog 103 := enters_of Tryz.func103 (by kernel_rfl) rfl
theorem enters94 : Enters Tryz.prog 94 := enters_of Tryz.func94 (by kernel_rfl) rfl
theorem cOrdered {n m ca cb bi bm be : Nat} {ky : List UInt8} {A B : Option Addr} {c : Ctx} {nm : List UInt8} {x k q t : Nat} {w : World} (h : CartOK w A n ca B m cb c bi bm nm x k q t) (e : E1 w be ky A n ca B m cb bi) (hk : KeyOK ky) :
    Calls Tryz.prog 72 #[.slice (some ⟨be, 0, none⟩) 1 1] w (Ret w (IsB true)) := by
  obtain ⟨N, hN⟩ : ∃ N, N = w.heap.size := ⟨_, rfl⟩
  have hx : Below w.heap.size w (w.alloc (.cells (entA ky A n ca B m cb bi) 71)) := by go_grown
  have E2 := Lib.hid (show E1 (w.alloc (.cells (entA ky A n ca B m cb bi) 71)) N ky A n ca B m cb bi by rw [hN]; exact newE1 ..)
  have H := Lib.hid (h.mono hx); have BX := Lib.hid hx; have HK := Lib.hid hk
  have EN : Hid (w.heap.size = N) := Lib.hid hN.symm
  have c0 := e.c0; have c1 := e.c1; have c2 := e.c2; have c3 := e.c3
  have hb : be < w.heap.size := World.block_lt_of_cell? _ _ c0
  clear h hx e hk hN
  go_enter Tryz.func72, Tryz.ntmps72
  go_wp2
  refine wp_loop_rounds 2 ?_
  rw [rounds_succ]
  go_wp2_with fail
  rw [EN.out]
  clear c0 c1 c2 c3 hb
  refine wp_region_M mixed (by kernel_rfl) ?_
  refine MDerR.step (Ob.fieldV Wanted.free Has.oldIs (fun w1 => field_e0)) ?_
  refine MDerR.step (Ob.loadV Wanted.free (Has.new 0 0) (fun w1 hb1 => load_ky hb1 E2.out.c0)) ?_
  refine MDerR.step (Ob.call1V Wanted.free enters103 (Has.new 1 0) (fun w1 hb1 => HK.out w1)) ?_
  refine MDerR.step (Ob.not Wanted.free (Has.new 2 0)) ?_
  refine MDerR.step (Ob.move Wanted.free (Has.new 3 0)) ?_
  refine MDerR.step (Ob.fieldV (Wanted.on 4 0) Has.oldIs (fun w1 => field_e1)) ?_
  refine MDerR.step (Ob.loadV (Wanted.on 4 1) (Has.new 5 0) (fun w1 hb1 => load_ecart (E2.out.mono hb1))) ?_
  refine MDerR.step (Ob.call1V (Wanted.on 4 2) enters94 (Has.new 6 0) (fun w1 hb1 => cValid1 (H.out.mono hb1).at_ H.out.ok)) ?_
  refine MDerR.step (Ob.not (Wanted.on 4 3) (Has.new 7 0)) ?_
  refine MDerR.step (Ob.pickF Wanted.free (Has.new 4 4) (Has.new 8 0)) ?_
  refine MDerR.step (Ob.move Wanted.free (Has.new 9 0)) ?_
  refine MDerR.step (Ob.move (Wanted.on 10 0) Has.oldIs) ?_
  refine MDerR.step (Ob.binV (Wanted.on 10 1) (Has.new 11 0) (Has.cst _) (fun w1 => int_gtr false rfl)) ?_
  refine MDerR.step (Ob.move (Wanted.on 10 2) (Has.new 12 0)) ?_
  refine MDerR.step (Ob.off 13 0) ?_
  refine MDerR.step (Ob.off 13 1) ?_
  refine MDerR.step (Ob.off 13 2) ?_
  refine MDerR.step (Ob.off 13 3) ?_
  refine MDerR.step (Ob.off 13 4) ?_
  refine MDerR.step (Ob.off 13 5) ?_
  refine MDerR.step (Ob.off 13 6) ?_
  refine MDerR.step (Ob.off 13 7) ?_
  refine MDerR.step (Ob.off 13 8) ?_
  refine MDerR.step (Ob.pickF (Wanted.on 10 12) (Has.new 13 9) (Has.cst _)) ?_
  refine MDerR.step (Ob.pickF Wanted.free (Has.new 10 13) (Has.new 23 0)) ?_
  simp only [MDerR, dstsOf, List.map, EndM, List.reverse_cons, List.reverse_nil, List.nil_append, List.cons_append]
  intro wE hE
  iterate 25 (rintro _ rfl)
  simp only [Act.put, List.setIfInBounds_toArray, List.set_cons_zero, List.set_cons_succ]
  have HE := Lib.hid (BX.out.le hE)
  clear hE
  go_wp2
  rw [rounds_succ]
  go_wp2
  go_ret
  exact retB rfl HE.out
theorem cBValid {n m ca cb bi bm be : Nat} {ky : List UInt8} {A B : Option Addr} {c : Ctx} {nm : List UInt8} {x k q t : Nat} {w : World} (h : CartOK w A n ca B m cb c bi bm nm x k q t) (e : E1 w be ky A n ca B m cb bi) (hk : KeyOK ky) :
    Calls Tryz.prog 41 #[.slice (some ⟨be, 0, none⟩) 1 1] w (Ret w (IsB true)) := by
  have C := Lib.hid (cOrdered h e hk)
  clear h e hk
  go_enter Tryz.func41, Tryz.ntmps41
  go_wp2_with fail
  refine C.out.mono ?_
  rintro _ w1 ⟨_, rfl, hb1, rfl⟩
  have HB := Lib.hid hb1
  clear hb1
  go_wp2
  go_ret
  exact retB rfl HB.out
end Go.Proofs.YtphhhnjeojdnkaaGreatDoor

/-
  The check sum: the table.
-/
namespace Go.Proofs.YtphhhnjeojdnkaaGreatDoor
open Go.RowKit
def TabAt (w : World) (b : Nat) : Prop := ∀ j : Nat, j < 256 -> w.cell? ⟨b, j, none⟩ = some (.int .u32 (tabN j : Nat))
def IsTab (w : World) (v : Value) : Prop := ∃ b, v = .pointer (some ⟨b, 0, none⟩) ∧ b < w.heap.size ∧ TabAt w b
def TabRel (w : World) (i : Value) (wr : World) : Prop :=
  ∃ k : Nat, i = .int .i64 k ∧ k <= 256 ∧ Below w.heap.size w wr ∧ w.heap.size < wr.heap.size ∧ (∀ o, wr.frozen? ⟨w.heap.size, o, none⟩ = false) ∧ (∀ j : Nat, j < 256 -> ∃ z : Int, wr.cell? ⟨w.heap.size, j, none⟩ = some (.int .u32 z)) ∧ ∀ j : Nat, j < k -> wr.cell? ⟨w.heap.size, j, none⟩ = some (.int .u32 (tabN j : Nat))
theorem tab_zero : Tryz.zeroCells199 = Array.replicate 256 (.int .u32 0) := by rfl
theorem TabRel.start (w : World) : TabRel w (.int .i64 0) (w.alloc (.cells Tryz.zeroCells199 199)) := by
  refine ⟨0, rfl, by omega, (Below.refl _ _).alloc (Nat.le_refl _) _, (Array.getElem?_eq_some_iff.1 (heap_alloc_new w _)).1, fun o => by simp [go_sem], fun j hj => ⟨0, ?_⟩, fun j hj => by omega⟩
  rw [cell_of_row _ _ _ _ _ (0, 0) (heap_alloc_new w _), tab_zero]
  simp [hj]
theorem TabRel.next {w wr : World} {k : Nat} {z : Int} {i : Value} (hk : k < 256) (hb : Below w.heap.size w wr) (hl : w.heap.size < wr.heap.size) (hf : ∀ o, wr.frozen? ⟨w.heap.size, o, none⟩ = false) (hz : ∀ j : Nat, j < 256 -> ∃ z : Int, wr.cell? ⟨w.heap.size, j, none⟩ = some (.int .u32 z)) (ht : ∀ j : Nat, j < k -> wr.cell? ⟨w.heap.size, j, none⟩ = some (.int .u32 (tabN j : Nat)))
    (e : z = (tabN k : Nat)) (hi : i = .int .i64 ((k : Int) + 1)) : TabRel w i (wr.setCell ⟨w.heap.size, k, none⟩ (.int .u32 z)) := by
  obtain ⟨z0, h0⟩ := hz k hk
  refine ⟨k + 1, by rw [hi]; simp, hk, hb.setCell (Nat.le_refl _) _, by rw [World.size_setCell]; exact hl, fun o => by have := hf o; simpa [World.frozen?_setCell] using this, fun j hj => ?_, fun j hj => ?_⟩
  · by_cases hjk : j = k
    · subst hjk; exact ⟨_, cell_set h0⟩
    · obtain ⟨z1, h1⟩ := hz j hj
      exact ⟨z1, cell_far (fun e => hjk (by simpa using (congrArg Addr.off e).symm)) h1⟩
  · by_cases hjk : j = k
    · subst hjk; rw [cell_set h0, e]
    · exact cell_far (fun e => hjk (by simpa using (congrArg Addr.off e).symm)) (ht j (by omega))
theorem and_one {m : Nat} {b : Bool} (hm : m < 4294967296) (h : (Go.bits .and .u32 (m : Int) 1 == 1) = b) : ((m : Int) % 2 == 1) = b := by
  have h1 : Go.bits .and .u32 (m : Int) 1 = ((m &&& 1 : Nat) : Int) := and_u32 (b := 1) hm (by omega)
  rw [<- h, h1, Nat.and_one_is_mod]; rfl
def InRel (W : World) (n : Nat) (s i : Value) (wr : World) : Prop := ∃ k m : Nat, i = .int .i64 k ∧ s = .int .u32 m ∧ m < 4294967296 ∧ k <= 8 ∧ wr = W ∧ halves 8 n = halves (8 - k) m
theorem cmade (w : World) : Calls Tryz.prog 106 #[] w (Ret w IsTab) := by
  have H0 := Lib.hid (TabRel.start w)
  go_enter Tryz.func106, Tryz.ntmps106
  go_wp2
  go_loopw [5] (fun i wr => TabRel w i wr) (fun i _ => 256 - (intOf i).toNat)
  case atStart => exact H0.out
  case round =>
    obtain ⟨k, rfl, hk, hb, hl, hf, hz, ht⟩ := hrel
    have HF := Lib.hid hf; clear hf
    by_cases hlt : k < 256
    · obtain ⟨z0, c0⟩ := hz k hlt
      have HZ := Lib.hid hz; have HT := Lib.hid ht; have C0 := Lib.hid c0; clear hz ht c0
      have hw : IntKind.u32.wrap (k : Int) = k := wrap_u32 (by omega)
      go_wp2
      go_loopw [3, 10] (fun s i wr1 => InRel wr k s i wr1) (fun _ i _ => 8 - (intOf i).toNat)
      case atStart => exact ⟨0, k, rfl, rfl, by omega, by omega, rfl, rfl⟩
      case round =>
        obtain ⟨r, m, rfl, rfl, hm, hr, rfl, hs⟩ := hrel
        by_cases hlr : r < 8
        · have HS := Lib.hid hs; clear hs
          have hstep : ∀ m' : Nat, m' = half m -> ∀ z : Int, z = (m' : Int) -> InRel wr k (.int .u32 z) (.int .i64 ((r : Int) + 1)) wr := fun m' e z hz => ⟨r + 1, m', by simp, by rw [hz], by rw [e]; exact half_lt hm, hlr, rfl, by rw [HS.out, e, show 8 - r = (8 - (r + 1)) + 1 by omega]; rfl⟩
          have ST := Lib.hid hstep; clear hstep
          go_wp2
          · rename_i ht
            refine ⟨ST.out _ rfl _ (half_odd_ hm (and_one hm ht)), ?_⟩
            simp [intOf]; omega
          · rename_i ht
            refine ⟨ST.out _ rfl _ (half_even_ (and_one hm ht)), ?_⟩
            simp [intOf]; omega
        · have hr8 : r = 8 := by omega
          subst hr8
          have E := Lib.hid (show tabN k = m from hs)
          clear hs
          have c0 := C0.out
          have f0 := HF.out k
          go_wp2
          refine ⟨TabRel.next hlt hb hl HF.out HZ.out HT.out (by rw [E.out]) rfl, ?_⟩
          simp [intOf]; omega
    · have hk : k = 256 := by omega
      subst hk
      have HT := Lib.hid ht; clear ht hz
      go_wp2
      go_ret
      exact ⟨_, rfl, hb, _, rfl, hl, HT.out⟩
end Go.Proofs.YtphhhnjeojdnkaaGreatDoor

/-
  The check sum: a step by the table, and the sum.
-/
namespace Go.Proofs.YtphhhnjeojdnkaaGreatDoor
open Go.RowKit
theorem stepT_lt {n : Nat} {x : UInt8} (h : n < 4294967296) : stepT n x < 4294967296 := by rw [step_eq]; exact stepB_lt h
theorem cstep (b n : Nat) (x : UInt8) (w : World) (hn : n < 4294967296) (ht : TabAt w b) :
    Calls Tryz.prog 107 #[.pointer (some ⟨b, 0, none⟩), .int .u32 n, .int .u8 x.toNat] w (Ret w (IsK .u32 (stepT n x))) := by
  have hx : x.toNat < 256 := x.toNat_lt
  have hxr : Go.bits .xor .u8 ((n : Int) % 256) (x.toNat : Int) = (((n % 256) ^^^ x.toNat : Nat) : Int) := xor_u8 (a := n % 256) (Nat.mod_lt _ (by omega)) hx
  have hlt : (n % 256) ^^^ x.toNat < 256 := Nat.xor_lt_two_pow (n := 8) (Nat.mod_lt _ (by omega)) hx
  have c0 := ht _ hlt
  have h2 : Go.bits .xor .u32 (tabN ((n % 256) ^^^ x.toNat) : Nat) ((n : Int) / 256) = ((tabN ((n % 256) ^^^ x.toNat) ^^^ (n / 256) : Nat) : Int) := xor_u32 (b := n / 256) (tab_lt (Nat.lt_trans hlt (by omega))) (by omega)
  have E := Lib.hid (show stepT n x = tabN ((n % 256) ^^^ x.toNat) ^^^ (n / 256) from rfl)
  have H2 := Lib.hid h2; clear h2
  generalize (n % 256) ^^^ x.toNat = r at *
  go_enter Tryz.func107, Tryz.ntmps107
  go_wp2
  go_ret
  exact retK (by rw [E.out, H2.out]) (Below.refl _ _)
theorem not_nat {n : Nat} (h : n < 4294967296) : 4294967295 ^^^ n = 4294967295 - n := by
  apply Nat.eq_of_testBit_eq
  intro i
  have h1 := Nat.testBit_two_pow_sub_one 32 i
  have h2 := Nat.testBit_two_pow_sub_succ (n := 32) h i
  have e : 4294967295 - n = 2 ^ 32 - (n + 1) := by omega
  rw [Nat.testBit_xor, e, h2]
  rw [show (2 : Nat) ^ 32 - 1 = 4294967295 from rfl] at h1
  rw [h1]
  by_cases hi : i < 32
  · simp [hi]
  · have : n.testBit i = false := Nat.testBit_lt_two_pow (Nat.lt_of_lt_of_le h (Nat.pow_le_pow_right (n := 2) (by omega) (show 32 <= i by omega)))
    simp [hi, this]
theorem not_u32 {n : Nat} (h : n < 4294967296) : Go.bits .xor .u32 IntKind.u32.max (n : Int) = ((4294967295 - n : Nat) : Int) := by
  rw [<- not_nat h]
  exact xor_u32 (a := 4294967295) (by omega) h
def UpRel (w : World) (n : Nat) (l : List UInt8) (s i : Value) (wr : World) : Prop :=
  ∃ k m : Nat, i = .int .i64 k ∧ s = .int .u32 m ∧ m < 4294967296 ∧ k <= n ∧ Below w.heap.size w wr ∧ crcFrom 4294967295 l = (l.drop k).foldl stepT m
theorem UpRel.next {w wr : World} {n k m m' : Nat} {l : List UInt8} {x : UInt8} {i : Value} (hm : m' < 4294967296) (hk : k < n) (hb : Below w.heap.size w wr) (hs : crcFrom 4294967295 l = (l.drop k).foldl stepT m) (hd : l.drop k = x :: l.drop (k + 1)) (e : m' = stepT m x) (hi : i = .int .i64 ((k : Int) + 1)) : UpRel w n l (.int .u32 m') i wr :=
  ⟨k + 1, m', by rw [hi]; simp, rfl, hm, hk, hb, by rw [hs, hd, e]; rfl⟩
theorem cupdate0 (A : Option Addr) (n c : Nat) (l : List UInt8) (w : World) (hsl : Sl encB w A n c l) :
    Calls Tryz.prog 76 #[.int .u32 0, .slice A n c] w (Ret w (IsK .u32 (crcS l))) := by
  have hn := hsl.big
  have M := Lib.hid (cmade w)
  go_enter Tryz.func76, Tryz.ntmps76
  go_wp2_with (go_at_call 106; ((with_reducible refine M.out.mono ?_); rintro e w1 ⟨_, rfl, hb1, b, rfl, hlb, ht⟩))
  go_loopw [6, 14] (fun s i wr => UpRel w1 n l s i wr) (fun _ i _ => n - (intOf i).toNat)
  case atStart => exact ⟨0, 4294967295, rfl, rfl, by omega, by omega, Below.refl _ _, rfl⟩
  case round =>
    obtain ⟨k, m, rfl, rfl, hm, hk, hbw, hs⟩ := hrel
    have htr : TabAt wr b := fun j hj => cellKeep hbw (ht j hj)
    by_cases hlt : k < n
    · obtain ⟨bb, o, x, rfl, -, -, d1, c1⟩ := ((hsl.mono hb1).mono hbw).byte hlt
      have HS := Lib.hid hs; have D := Lib.hid d1; clear hs d1
      have C := Lib.hid (cstep b m x wr hm htr)
      have HT := Lib.hid ht; clear ht htr
      go_wp2_with (go_at_call 107; ((with_reducible refine C.out.mono ?_); rintro e w2 ⟨_, rfl, hb2, rfl⟩))
      go_roundw
      case rel => exact UpRel.next (stepT_lt hm) hlt (hbw.le hb2) HS.out D.out rfl rfl
      case measure => simp [intOf]; omega
    · have e : crcS l = 4294967295 - m := by unfold crcS; rw [hs, List.drop_of_length_le (by rw [<- hsl.len]; omega)]; rfl
      have E := Lib.hid e; clear hs e
      have HT := Lib.hid ht; clear ht htr
      go_wp2
      go_ret
      exact retK (by rw [E.out, not_u32 hm]) (hb1.le hbw)
theorem csum (A : Option Addr) (n c : Nat) (l : List UInt8) (w : World) (h : Sl encB w A n c l) :
    Calls Tryz.prog 46 #[.slice A n c] w (Ret w (IsK .u32 (crcS l))) := by
  have C := Lib.hid (cupdate0 A n c l w h); clear h
  go_enter Tryz.func46, Tryz.ntmps46
  go_wp2_with (go_at_call 76; ((with_reducible refine C.out.mono ?_); rintro e w1 ⟨_, rfl, hb1, rfl⟩))
  go_ret
  exact retK rfl hb1
end Go.Proofs.YtphhhnjeojdnkaaGreatDoor

/-
  batch.Encode at one entry.
-/
namespace Go.Proofs.YtphhhnjeojdnkaaGreatDoor
open Go.RowKit
def entryB (ky : List UInt8) (c : Ctx) (nm : List UInt8) (m : Mk) : List UInt8 := numB 1 ++ strB ky ++ wholeB c nm m
def batchB (ky : List UInt8) (c : Ctx) (nm : List UInt8) (m : Mk) : List UInt8 := entryB ky c nm m ++ sumB (crcS (entryB ky c nm m))
theorem crcS_lt (l : List UInt8) : crcS l < 4294967296 := by unfold crcS; omega
theorem cBEnc {n m ca cb bi bm be : Nat} {ky : List UInt8} {A B : Option Addr} {c : Ctx} {nm : List UInt8} {x k q t : Nat} {w : World} (h : CartOK w A n ca B m cb c bi bm nm x k q t) (e : E1 w be ky A n ca B m cb bi) (hk : KeyOK ky) (hl : ky.length <= 64) :
    Calls Tryz.prog 24 #[.slice (some ⟨be, 0, none⟩) 1 1] w (Ret w (IsPair (IsOwnB w.heap.size (batchB ky c nm ⟨x, k, q, t⟩)) 0)) := by
  have CV := Lib.hid (cBValid h e hk)
  have H := Lib.hid h; have E := Lib.hid e; have KL := Lib.hid hl
  clear h e hk hl
  go_enter Tryz.func24, Tryz.ntmps24
  go_wp2_with fail
  refine CV.out.mono ?_
  clear CV
  rintro _ w1 ⟨_, rfl, hb1, rfl⟩
  have H1 := Lib.hid (H.out.mono hb1); have E1_ := E.out.mono hb1
  obtain ⟨N, hN⟩ : ∃ N, N = w1.heap.size := ⟨_, rfl⟩
  have nw : WAt N none [] (w1.alloc wrBox) := by rw [hN]; exact newWriter w1
  have EN : Hid (w1.heap.size = N) := Lib.hid hN.symm
  have hb2 : Below w1.heap.size w1 (w1.alloc wrBox) := by go_grown
  have W0 := Lib.hid nw
  have H2 := Lib.hid (H1.out.mono hb2); have B2 := Lib.hid (hb1.le hb2)
  have hbe : be ≠ N := by have := World.block_lt_of_cell? _ _ E1_.c0; simp at this; omega
  have K1 := Lib.hid ((((((Keeps.nil_ (b := N) (r := none) (w := w1)).cons E1_.c3 hbe (by simp)).cons E1_.c2 hbe (by simp)).cons E1_.c1 hbe (by simp)).cons E1_.c0 hbe (by simp)).mono hb2)
  have FO := Lib.hid (H1.out.keeps (b := N) (by omega))
  have WN := Lib.hid (show w.heap.size <= N by have := hb1.size; omega)
  clear nw hN hb2 hb1 H H1 E1_ hbe
  go_wp2_with fail
  rw [EN.out]
  refine (wnum1 N none [] _ W0.out (by simp)).mono ?_
  rintro _ w2 ⟨u2, r2, rfl, g1, g2, g3⟩
  have H3 := Lib.hid (H2.out.wrote g1 FO.out)
  have F3 := Lib.hid (H2.out.far FO.out g3)
  have W1 := Lib.hid ((Wd.start W0.out).step g1 g2 g3)
  have K2 := Lib.hid (K1.out.step g1 g3)
  clear g1 g2 g3
  have z0 := K2.out.at_ 0 rfl; have z1 := K2.out.at_ 1 rfl; have z2 := K2.out.at_ 2 rfl; have z3 := K2.out.at_ 3 rfl
  have hes : be < w2.heap.size := World.block_lt_of_cell? _ _ z0
  go_wp2
  refine wp_loop_rounds 2 ?_
  rw [rounds_succ]
  obtain ⟨J, hJ⟩ : ∃ J, J = w2.heap.size := ⟨_, rfl⟩
  have hb2 : Below w2.heap.size w2 (w2.alloc (.cells (entA ky A n ca B m cb bi) 71)) := by go_grown
  have hE := newE1 w2 ky A n ca B m cb bi 71
  rw [<- hJ] at hE
  have W2 := Lib.hid (W1.out.mono hb2)
  have H4 := Lib.hid (H3.out.mono hb2)
  have hj1 : J ≠ N := by have := W1.out.at_.lt; omega
  have hj2 : some J ≠ r2 := W1.out.at_.rlt (by omega)
  have K3 := Lib.hid ((((Keeps.nil_ (b := N) (r := r2) (w := w2.alloc (.cells (entA ky A n ca B m cb bi) 71))).cons hE.c3 hj1 hj2).cons hE.c2 hj1 hj2).cons hE.c1 hj1 hj2)
  have EJ : Hid (w2.heap.size = J) := Lib.hid hJ.symm
  clear hJ hb2 hE hj1 hj2
  have n1 := Lib.hid num1_len
  go_wp2_with fail
  rw [EJ.out]
  refine (wstr N r2 _ ky _ W2.out.at_ (by simp only [List.length_append, List.nil_append]; have := n1.out; have := KL.out; omega)).mono ?_
  clear z0 z1 z2 z3 hes
  rintro _ w3 ⟨u3, r3, rfl, g1, g2, g3⟩
  have H5 := Lib.hid (H4.out.wrote g1 F3.out)
  have F5 := Lib.hid (H4.out.far F3.out g3)
  have W3 := Lib.hid (W2.out.step g1 g2 g3)
  have K4 := Lib.hid (K3.out.step g1 g3)
  clear g1 g2 g3
  have z1 := K4.out.at_ 0 rfl; have z2 := K4.out.at_ 1 rfl; have z3 := K4.out.at_ 2 rfl
  have hJs : J < w3.heap.size := World.block_lt_of_cell? _ _ z1
  go_wp2_with fail
  refine (cCanEnc H5.out).mono ?_
  clear z1 z2 z3 hJs
  rintro _ w4 ⟨_, rfl, hb4, u4, rfl, ho4⟩
  obtain ⟨A4, c4, rfl, hs4⟩ := OwnSl.sl ho4
  have S4 := Lib.hid hs4
  have W4 := Lib.hid (W3.out.mono hb4)
  have WL := Lib.hid (wholeB_len H5.out)
  clear hb4 ho4 hs4
  have SL := Lib.hid (show (strB ky).length <= 10 + ky.length by unfold strB; rw [List.length_append]; have := numB_ten (n := ky.length) (by have := KL.out; omega); omega)
  obtain ⟨WB, hWB⟩ : ∃ WB, WB = wholeB c nm ⟨x, k, q, t⟩ := ⟨_, rfl⟩
  have EW : Hid (wholeB c nm ⟨x, k, q, t⟩ = WB) := Lib.hid hWB.symm
  clear hWB
  rw [EW.out] at S4 WL ⊢
  obtain ⟨LN, hLN⟩ : ∃ LN, LN = WB.length := ⟨_, rfl⟩
  have EL : Hid (WB.length = LN) := Lib.hid hLN.symm
  clear hLN
  rw [EL.out] at S4 WL ⊢
  go_wp2_with fail
  refine (wput N r3 _ WB A4 LN c4 w4 S4.out W4.out.at_ (by simp only [List.length_append, List.nil_append]; have := n1.out; have := KL.out; have := SL.out; have := WL.out; have := EL.out; omega)).mono ?_
  rintro _ w5 ⟨u5, r5, rfl, g1, g2, g3⟩
  have W5 := Lib.hid (W4.out.step g1 g2 g3)
  clear g1 g2 g3
  have EB := Lib.hid (show ([] : List UInt8) ++ numB 1 ++ strB ky ++ WB = entryB ky c nm ⟨x, k, q, t⟩ by rw [<- EW.out]; simp [entryB])
  rw [EB.out] at W5
  have BL := Lib.hid (show (entryB ky c nm ⟨x, k, q, t⟩).length <= 200000 by rw [<- EB.out]; simp only [List.length_append, List.nil_append]; have := n1.out; have := KL.out; have := SL.out; have := WL.out; have := EL.out; omega)
  obtain ⟨EE, hEE⟩ : ∃ EE, EE = entryB ky c nm ⟨x, k, q, t⟩ := ⟨_, rfl⟩
  have EN2 : Hid (entryB ky c nm ⟨x, k, q, t⟩ = EE) := Lib.hid hEE.symm
  clear hEE EB
  rw [EN2.out] at W5 BL
  go_wp2_with fail
  rw [rounds_succ]
  go_wp2_with fail
  refine (wbytes N r5 EE w5 W5.out.at_ (by have := BL.out; omega)).mono ?_
  rintro _ w6 ⟨u6, rfl, hb6, ho6⟩
  obtain ⟨A6, c6, rfl, hs6⟩ := OwnSl.sl ho6
  have S6 := Lib.hid hs6
  have W6 := Lib.hid (W5.out.mono hb6)
  clear hb6 ho6 hs6
  go_wp2_with fail
  refine (csum A6 EE.length c6 EE w6 S6.out).mono ?_
  rintro _ w7 ⟨_, rfl, hb7, rfl⟩
  have W7 := Lib.hid (W6.out.mono hb7)
  clear hb7
  have hc := crcS_lt EE
  obtain ⟨s, hs⟩ : ∃ s, s = crcS EE := ⟨_, rfl⟩
  have ES : Hid (crcS EE = s) := Lib.hid hs.symm
  rw [<- hs] at hc ⊢
  clear hs
  have HC := Lib.hid (show (#[.int .u8 ((s : Int) / 16777216), .int .u8 ((s : Int) / 65536 % 256), .int .u8 ((s : Int) / 256 % 256), .int .u8 ((s : Int) % 256)] : Array Value).toList = encB.all (sumB s) by
    have := sumB_cells s
    rw [show (s : Int) / 16777216 % 256 = (s : Int) / 16777216 by omega] at this
    exact this)
  have hb8 : Below w7.heap.size w7 (w7.alloc (.cells #[.int .u8 ((s : Int) / 16777216), .int .u8 ((s : Int) / 65536 % 256), .int .u8 ((s : Int) / 256 % 256), .int .u8 ((s : Int) % 256)] 5)) := by go_grown
  have S8 := Lib.hid (Sl.new encB w7 (sumB s) (by simp [sumB]) _ HC.out 5)
  have W8 := Lib.hid (W7.out.mono hb8)
  clear hb8
  go_wp2_with fail
  refine (wput N r5 EE (sumB s) _ 4 4 _ S8.out W8.out.at_ (by have := BL.out; simp [sumB]; omega)).mono ?_
  clear hc
  rintro _ w8 ⟨u8, r8, rfl, g1, g2, g3⟩
  have W9 := Lib.hid (W8.out.step g1 g2 g3)
  clear g1 g2 g3
  have FL := Lib.hid (show (EE ++ sumB s).length <= 1000000 by have := BL.out; simp [sumB]; omega)
  obtain ⟨FF, hFF⟩ : ∃ FF, FF = EE ++ sumB s := ⟨_, rfl⟩
  have EF : Hid (EE ++ sumB s = FF) := Lib.hid hFF.symm
  clear hFF
  rw [EF.out] at W9 FL
  go_wp2_with fail
  refine (wlen N r8 FF w8 W9.out.at_ FL.out).mono ?_
  rintro _ w9 ⟨_, rfl, hb9, rfl⟩
  have W10 := Lib.hid (W9.out.mono hb9)
  clear hb9
  have hfl := FL.out
  generalize hlf : FF.length = LF at hfl ⊢
  have HLF := Lib.hid hlf
  clear hlf
  go_wp2_with fail
  refine (wbytes N r8 FF w9 W10.out.at_ FL.out).mono ?_
  rintro _ w10 ⟨u10, rfl, hb10, ho⟩
  have hs9 : w.heap.size <= w9.heap.size := by have := W10.out.wrote.size; have := B2.out.size; omega
  have HO := Lib.hid (show IsOwnB w.heap.size (batchB ky c nm ⟨x, k, q, t⟩) w10 u10 by
    unfold batchB; rw [EN2.out, ES.out, EF.out]; exact OwnSl.low ho hs9)
  have B10 := Lib.hid ((B2.out.trans (W10.out.wrote.below B2.out.size WN.out (fun _ e => nomatch e))).le hb10)
  clear hb10 ho hs9
  go_wp2
  refine bodyPost_ret (v := .tuple #[u10, .int .i64 0]) (by simp [results, Tryz.results24, go_sem]) rfl ?_
  exact ⟨_, rfl, B10.out, _, rfl, HO.out⟩
end Go.Proofs.YtphhhnjeojdnkaaGreatDoor

/-
  script.Batch: codes that are allowed.
-/
namespace Go.Proofs.YtphhhnjeojdnkaaGreatDoor
open Go.RowKit
theorem add_one {d : Dot} (h : validD d = true) : addC ([], []) [d] = ([d], []) ∨ addC ([], []) [d] = ([], [d]) := by
  have e : unionD [] [d] = [d] := by simp [unionD, withD, memD, cutD]
  unfold addC compactC
  simp only [e]
  split
  · exact .inr rfl
  · have hv : hasV ([] : List Dot) d = false := by
      have := hasNone h; unfold hasC at this; rw [h] at this; simpa [memD] using this
    simp only [passC, List.foldl_cons, List.foldl_nil, stepC, hv]
    simp only [Bool.false_eq_true, if_false]
    split
    · left; simp [raiseV, hv, raiseGo]
    · right; simp
theorem add_ok {r k : Nat} {q : Nat} {nm : List UInt8} (h : validD ((r : Int), (k : Int)) = true) (hq : qtyS q = true) (hn : NameOK nm) : C1ok (addC ([], []) [((r : Int), (k : Int))]) nm ⟨r, k, q, 1⟩ := by
  have hl : validL [((r : Int), (k : Int))] = true := by simp [validL, h]
  exact ⟨tight_iff.2 (add_spec ok_nil hl).1, orders_miss ok_nil hl, ⟨h, hq, show (0 : Int) < 1 by decide⟩, hn⟩
theorem batch_cart {b : Nat} {r k q : Nat} {nm : List UInt8} {w : World} {v : Value} (h : validD ((r : Int), (k : Int)) = true) (hq : qtyS q = true) (hn : NameOK nm) (hl : nm.length <= 100) (hc : IsCart1 b (addC ([], []) [((r : Int), (k : Int))]) nm ⟨r, k, q, 1⟩ w v) :
    ∃ A n ca B m cb bi bm, v = .agg (cartA A n ca B m cb bi) ∧ CartOK w A n ca B m cb (addC ([], []) [((r : Int), (k : Int))]) bi bm nm r k q 1 := by
  obtain ⟨A, n, ca, B, m, cb, bi, bm, rfl, hc1⟩ := hc.c1
  refine ⟨A, n, ca, B, m, cb, bi, bm, rfl, hc1, add_ok h hq hn, ?_, ?_, ?_, ?_, ?_, ?_, by omega⟩
  · rcases add_one h with e | e <;> rw [e] <;> simp [h]
  · rcases add_one h with e | e <;> rw [e] <;> simp [h]
  · have h1 := hc1.con.v.len; have h2 := hc1.con.k.len
    rcases add_one h with e | e <;> rw [e] at h1 h2 <;> simp at h1 h2 <;> omega
  · have := validD_iff.1 h; simp at this; omega
  · have := validD_iff.1 h; simp at this; omega
  · simp [qtyS] at hq; omega
theorem enters23 : Enters Tryz.prog 23 := enters_of Tryz.func23 (by kernel_rfl) rfl
theorem load_cart {w0 w : World} {N : Nat} {A B : Option Addr} {n ca m cb bi : Nat} (hb : Below w0.heap.size w0 w) (h0 : w0.cell? ⟨N, 0, none⟩ = some (.slice A n ca)) (h1 : w0.cell? ⟨N, 1, none⟩ = some (.slice B m cb)) (h2 : w0.cell? ⟨N, 2, none⟩ = some (.slice (some ⟨bi, 0, none⟩) 1 1)) : (Instr.loadAt 63 (.pointer (some ⟨N, 0, none⟩))).run Tryz.prog w = .ok (.agg (cartA A n ca B m cb bi)) w := by
  have c1 := cellKeep hb h0
  have c2 := cellKeep hb h1
  have c3 := cellKeep hb h2
  simp [go_sem, c1, c2, c3]
theorem enters24 : Enters Tryz.prog 24 := enters_of Tryz.func24 (by kernel_rfl) rfl
def IsEntL (ky : List UInt8) (A : Option Addr) (n ca : Nat) (B : Option Addr) (m cb bi : Nat) (w : World) (v : Value) : Prop := ∃ be, v = .slice (some ⟨be, 0, none⟩) 1 1 ∧ E1 w be ky A n ca B m cb bi
instance (ky : List UInt8) (A : Option Addr) (n ca : Nat) (B : Option Addr) (m cb bi : Nat) : Grows (IsEntL ky A n ca B m cb bi) := ⟨fun hb ⟨be, e, h⟩ => ⟨be, e, h.mono hb⟩⟩
section
variable {ops : List Oper} {Fs : List VT} {w0 : World} {a0 : Act} {i : Nat} {d : Option Tmp} {ty : TypeId} {pos : String} {after : Array Edge} {g : Option (Nat × Bool)}
theorem Ob.mkEnt {x y : Operand} {ky : List UInt8} {A B : Option Addr} {n ca m cb bi : Nat} (hw : Wanted ops Fs w0 a0 i ⟨d, .build 71 #[(0, x), (1, y)], ty, pos, after, g⟩) (hx : Has ops Fs w0 a0 i ⟨d, .build 71 #[(0, x), (1, y)], ty, pos, after, g⟩ x (Is (strV ky))) (hy : Has ops Fs w0 a0 i ⟨d, .build 71 #[(0, x), (1, y)], ty, pos, after, g⟩ y (Is (.agg (cartA A n ca B m cb bi)))) (_ : True) :
    Ob Tryz.prog ops Fs w0 a0 i ⟨d, .build 71 #[(0, x), (1, y)], ty, pos, after, g⟩ (Is (.agg (entA ky A n ca B m cb bi))) :=
  Ob.stay hw fun a w cx => by
    have e : a.eval x = strV ky := hx a w cx
    have e2 : a.eval y = .agg (cartA A n ca B m cb bi) := hy a w cx
    refine ⟨.agg (entA ky A n ca B m cb bi), ?_, rfl⟩
    generalize a.eval = ρ at e e2
    simp [execOp, e, e2, go_sem]
theorem Ob.mkEntL {x : Operand} {ky : List UInt8} {A B : Option Addr} {n ca m cb bi : Nat} (hw : Wanted ops Fs w0 a0 i ⟨d, .buildSlice 72 1 #[(0, x)], ty, pos, after, g⟩) (hx : Has ops Fs w0 a0 i ⟨d, .buildSlice 72 1 #[(0, x)], ty, pos, after, g⟩ x (Is (.agg (entA ky A n ca B m cb bi)))) (_ : True) :
    Ob Tryz.prog ops Fs w0 a0 i ⟨d, .buildSlice 72 1 #[(0, x)], ty, pos, after, g⟩ (IsEntL ky A n ca B m cb bi) :=
  Ob.buildSlice hw fun a w cx => by
    have e : a.eval x = .agg (entA ky A n ca B m cb bi) := hx a w cx
    generalize a.eval = ρ at e
    refine ⟨.slice (some ⟨w.heap.size, 0, none⟩) 1 1, w.alloc (.cells (entA ky A n ca B m cb bi) 71), ?_, (Below.refl _ _).alloc (Nat.le_refl _) _, _, rfl, newE1 ..⟩
    simp [e, go_sem]
end
theorem encEntL {n m ca cb bi bm N : Nat} {ky : List UInt8} {A B : Option Addr} {c : Ctx} {nm : List UInt8} {x k q t : Nat} {w : World} {u : Value} (h : CartOK w A n ca B m cb c bi bm nm x k q t) (hu : IsEntL ky A n ca B m cb bi w u) (hk : KeyOK ky) (hl : ky.length <= 64) (hN : N <= w.heap.size) :
    Calls Tryz.prog 24 #[u] w (Ret w (IsPair (IsOwnB N (batchB ky c nm ⟨x, k, q, t⟩)) 0)) := by
  obtain ⟨be, rfl, e⟩ := hu
  exact (cBEnc h e hk hl).mono fun _ _ ⟨v, e, hb, y, e2, ho⟩ => ⟨v, e, hb, y, e2, OwnSl.low ho hN⟩
theorem cBatch {a i k q : Nat} (ha : a <= 3) (hi : i <= 3) (hk : 1 <= k) (hk2 : k <= 4294967295) (hq : 1 <= q) (hq2 : q <= 2147483647) {ky nm : List UInt8} (hkl : ky = letter 97 a) (hnl : nm = letter 119 i) (hK : KeyOK ky) (hN : NameOK nm) (hD : NoDots nm) (hl1 : ky.length <= 64) (hl2 : nm.length <= 100) (w : World) :
    Calls Tryz.prog 10 #[.int .i64 (a : Int), .int .i64 (i : Int), .int .i64 (k : Int), .int .i64 (q : Int)] w (Ret w (IsPair (IsOwnB w.heap.size (batchB ky (addC ([], []) [(((50000 + 4 * a + i : Nat) : Int), (k : Int))]) nm ⟨((50000 + 4 * a + i : Nat) : Int), k, q, 1⟩)) 0)) := by
  have O1 := Lib.hid (onei i (by omega)); have O2 := Lib.hid (onek a (by omega))
  rw [<- hnl] at O1
  rw [<- hkl] at O2
  obtain ⟨r, hr⟩ : ∃ r, r = 50000 + 4 * a + i := ⟨_, rfl⟩
  have hv : validD ((r : Int), (k : Int)) = true := validD_iff.2 ⟨by simp; omega, by simp; omega, by simp; omega, by simp; omega⟩
  have hqs : qtyS (q : Int) = true := by simp [qtyS]; omega
  rw [<- hr]
  have hri : (r : Int) = 50000 + 4 * (a : Int) + (i : Int) := by omega
  have CA := Lib.hid (cAdd hv hqs hN hD)
  have BC := Lib.hid (fun b w v => batch_cart (b := b) (w := w) (v := v) hv hqs hN hl2)
  have HK := Lib.hid hK; have L1 := Lib.hid hl1; have HR := Lib.hid hri
  clear hkl hnl hK hN hD hl1 hl2 hr hv hqs hri
  go_enter Tryz.func10, Tryz.ntmps10
  go_wp2_with fail
  refine (O1.out w).mono ?_
  rintro _ w1 ⟨_, rfl, hb1, rfl⟩
  have B1 := Lib.hid hb1
  clear hb1
  go_wp2_with fail
  rw [<- HR.out]
  refine (CA.out w1).mono ?_
  rintro _ w2 ⟨_, rfl, hb2, v, rfl, hc⟩
  obtain ⟨A, n, ca, B, m, cb, bi, bm, rfl, hok⟩ := BC.out _ _ _ hc
  have B2 := Lib.hid (B1.out.le hb2); have CK := Lib.hid hok
  clear hb2 hc hok
  go_wp2_with fail
  obtain ⟨Z, hZ⟩ : ∃ Z, Z = w2.heap.size := ⟨_, rfl⟩
  have hb3 : Below w2.heap.size w2 (w2.alloc (.cells (cartA A n ca B m cb bi) 63)) := by go_grown
  have y0 : (w2.alloc (.cells (cartA A n ca B m cb bi) 63)).cell? ⟨Z, 0, none⟩ = some (.slice A n ca) := by rw [hZ]; simp [go_sem]
  have y1 : (w2.alloc (.cells (cartA A n ca B m cb bi) 63)).cell? ⟨Z, 1, none⟩ = some (.slice B m cb) := by rw [hZ]; simp [go_sem]
  have y2 : (w2.alloc (.cells (cartA A n ca B m cb bi) 63)).cell? ⟨Z, 2, none⟩ = some (.slice (some ⟨bi, 0, none⟩) 1 1) := by rw [hZ]; simp [go_sem]
  have B3 := Lib.hid (B2.out.le hb3); have CK3 := Lib.hid (CK.out.mono hb3)
  rw [<- hZ]
  clear hZ hb3
  generalize w2.alloc (.cells (cartA A n ca B m cb bi) 63) = w3 at *
  have Y0 := Lib.hid y0; have Y1 := Lib.hid y1; have Y2 := Lib.hid y2
  clear y0 y1 y2
  obtain ⟨BB, hBB⟩ : ∃ BB, BB = batchB ky (addC ([], []) [((r : Int), (k : Int))]) nm ⟨r, k, q, 1⟩ := ⟨_, rfl⟩
  have EC := Lib.hid (fun (w1 : World) (u : Value) (hb1 : Below w3.heap.size w3 w1) (hu : IsEntL ky A n ca B m cb bi w1 u) => show Calls Tryz.prog 24 #[u] w1 (Ret w1 (IsPair (IsOwnB w.heap.size BB) 0)) by
    rw [hBB]
    exact encEntL (CK3.out.mono hb1) hu HK.out L1.out (by have := B3.out.size; have := hb1.size; omega))
  have EBB : Hid (batchB ky (addC ([], []) [((r : Int), (k : Int))]) nm ⟨r, k, q, 1⟩ = BB) := Lib.hid hBB.symm
  clear hBB
  rw [EBB.out]
  refine wp_region_M mixed (by kernel_rfl) ?_
  refine MDerR.step (Ob.move Wanted.free Has.oldIs) ?_
  refine MDerR.step (Ob.call2V Wanted.free enters23 (Has.cst _) (Has.new 0 0) (fun w1 hb1 => O2.out w1)) ?_
  refine MDerR.step (Ob.loadV Wanted.free Has.oldIs (fun w1 hb1 => load_cart hb1 Y0.out Y1.out Y2.out)) ?_
  refine MDerR.step (Ob.mkEnt Wanted.free (Has.new 1 1) (Has.new 2 0) trivial) ?_
  refine MDerR.step (Ob.mkEntL Wanted.free (Has.new 3 0) trivial) ?_
  refine MDerR.step (Ob.call1 Wanted.free enters24 (Has.new 4 0) (fun w1 u hb1 hu => EC.out w1 u hb1 hu)) ?_
  refine MDerR.step (Ob.extract (F := IsOwnB w.heap.size BB) Wanted.free (Has.new 5 0) (fun w1 v hb1 hv => ext0 (F := IsOwnB w.heap.size BB) hv)) ?_
  refine MDerR.step (Ob.extract (F := IsI 0) Wanted.free (Has.new 5 1) (fun w1 v hb1 hv => ext1 (F := IsOwnB w.heap.size BB) hv)) ?_
  refine MDerR.step (Ob.assign Wanted.free (Has.new 6 1)) ?_
  refine MDerR.step (Ob.assign Wanted.free (Has.new 7 1)) ?_
  simp only [MDerR, dstsOf, List.map, EndM, List.reverse_cons, List.reverse_nil, List.nil_append, List.cons_append]
  intro wE hE
  iterate 4 (rintro _ rfl)
  rintro _ _h4
  rintro _ _h5
  rintro _ h6
  iterate 1 (rintro _ rfl)
  rintro _ h8
  iterate 1 (rintro _ rfl)
  simp only [Act.put, List.setIfInBounds_toArray, List.set_cons_zero, List.set_cons_succ]
  rename_i v4 v5 v6 v8
  have HB := Lib.hid (B3.out.le hE); have HO := Lib.hid h8
  clear hE _h4 _h5 h6 h8
  go_wp2
  refine bodyPost_ret (v := .tuple #[v8, .int .i64 0]) (by simp [results, Tryz.results10, go_sem]) rfl ?_
  exact ⟨_, rfl, HB.out, _, rfl, by rw [EBB.out]; exact HO.out⟩
end Go.Proofs.YtphhhnjeojdnkaaGreatDoor

/-
  Are two operations equal: in the code and in the reference.
-/
namespace Go.Proofs.YtphhhnjeojdnkaaGreatDoor
open Go.RowKit
structure OpS where
  kind : Int
  n : Int
  call : CallS
  deriving DecidableEq
def opV (o : OpS) (A : Option Addr) (n m : Nat) : Value := .agg #[.int .i64 o.kind, .int .i64 o.n, .int .i64 o.call.op, strV o.call.key, strV o.call.other, strV o.call.item, .int .i64 o.call.qty, .slice A n m]
def opEq (a b : OpS) : Bool := a.kind == b.kind && a.n == b.n && callEq a.call b.call
theorem req (a b : OpS) (A B : Option Addr) (n c m d : Nat) (w : World) (ha : Sl encB w A n c a.call.data) (hb : Sl encB w B m d b.call.data) :
    Calls Tryz.prog 32 #[opV a A n c, opV b B m d] w (Ret w (IsB (opEq a b))) := by
  obtain ⟨kd1, n1, c1⟩ := a
  obtain ⟨kd2, n2, c2⟩ := b
  have C1 := fun (w1 : World) (hb1 : Below w.heap.size w w1) => rsameCall c1 c2 A B n c m d w1 (ha.mono hb1) (hb.mono hb1)
  unfold opV opEq
  unfold callV at C1
  simp only at ha hb ⊢
  clear ha hb
  generalize callEq c1 c2 = r at *
  obtain ⟨o1, k1, h1, i1, q1, l1⟩ := c1
  obtain ⟨o2, k2, h2, i2, q2, l2⟩ := c2
  simp only at C1 ⊢
  have C1 := Lib.hid C1
  go_enter Tryz.func32, Tryz.ntmps32
  go_wp2_with (go_at_call 61; ((with_reducible refine (C1.out _ (by go_grown)).mono ?_); rintro e w1 ⟨_, rfl, hb1, rfl⟩))
  all_goals go_ret
  · rename_i g1 g2
    exact retB (by simp [g1, g2]) (Below.le (by go_grown) hb1)
  all_goals exact retB (by clear C1; simp_all) (by go_grown)
end Go.Proofs.YtphhhnjeojdnkaaGreatDoor

/-
  What the bytes of a script read as: plain.
-/
namespace Go.Proofs.YtphhhnjeojdnkaaGreatDoor
open Go.RowKit
def byteAt (l : List UInt8) (i : Nat) : Nat := (l.getD i 0).toNat
theorem byteAt_lt (l : List UInt8) (i : Nat) : byteAt l i < 256 := (l.getD i 0).toNat_lt
theorem byteAt_tail (l : List UInt8) (i : Nat) : byteAt l.tail i = byteAt l (i + 1) := by cases l <;> simp [byteAt]
theorem headB_at (l : List UInt8) : headB l = byteAt l 0 := by cases l <;> rfl
def noCall : CallS := ⟨0, [], [], [], 0, []⟩
def batchOf (a i k q : Nat) : List UInt8 := batchB (letter 97 a) (addC ([], []) [(((50000 + 4 * a + i : Nat) : Int), (k : Int))]) (letter 119 i) ⟨((50000 + 4 * a + i : Nat) : Int), k, q, 1⟩
def callS (l : List UInt8) : CallS × Nat :=
  let x := byteAt l 0; let p := byteAt l 1; let q := byteAt l 2
  if x % 16 = 9 then (⟨1, letter 97 p, [], letter 119 (p / 4), (q : Int) + 1, []⟩, 3)
  else if x % 16 = 10 then (⟨2, letter 97 p, [], letter 119 (p / 4), (q : Int) + 1, []⟩, 3)
  else if x % 16 = 11 then (⟨3, letter 97 p, [], letter 119 (p / 4), 0, []⟩, 2)
  else if x % 16 = 12 then (if x / 16 = 8 ∨ x / 16 = 9 then (⟨5, letter 97 p, [], [], 0, []⟩, 2) else (⟨4, letter 97 p, [], [], 0, []⟩, 2))
  else if x % 16 = 13 then (⟨6, letter 97 p, letter 97 (p / 4), letter 119 (p / 16), 0, []⟩, 2)
  else if x % 16 = 14 then (if x / 16 = 14 then (⟨10, [], [], [], 0, []⟩, 2) else if x / 16 = 15 then (⟨11, [], [], [], 0, []⟩, 2) else (⟨7, letter 97 p, letter 97 (p / 4), [], 0, []⟩, 2))
  else if x / 16 = 15 then (⟨8, [], [], [], 0, [UInt8.ofNat p, UInt8.ofNat q]⟩, 3)
  else (⟨8, [], [], [], 0, batchOf (p % 4) (p / 4 % 4) (q + 1) (byteAt l 3 + 1)⟩, 4)
def firstS (l : List UInt8) : OpS × Nat :=
  if byteAt l 0 % 16 < 8 then (⟨2, byteAt l 0 / 16, noCall⟩, 1)
  else if byteAt l 0 % 16 = 8 then (⟨3, byteAt l 1, noCall⟩, 2)
  else (⟨1, 0, (callS l).1⟩, (callS l).2)
theorem callS_pos (l : List UInt8) : 1 <= (callS l).2 := by
  unfold callS
  dsimp only
  repeat' split
  all_goals simp
theorem firstS_pos (l : List UInt8) : 1 <= (firstS l).2 := by
  unfold firstS
  have := callS_pos l
  repeat' split
  all_goals simp
  all_goals omega
def parseS (l : List UInt8) : List OpS := if h : l = [] then [] else (firstS l).1 :: parseS (l.drop (firstS l).2)
  termination_by l.length
  decreasing_by
  have := firstS_pos l
  have : 0 < l.length := List.length_pos_iff.2 h
  simp; omega
theorem parseS_nil : parseS [] = [] := by rw [parseS]; simp
theorem parseS_cons {l : List UInt8} (h : l ≠ []) : parseS l = (firstS l).1 :: parseS (l.drop (firstS l).2) := by rw [parseS, dif_neg h]
end Go.Proofs.YtphhhnjeojdnkaaGreatDoor

/-
  Lists of operations in memory; a row of operations of the call's own: an append.
-/
namespace Go.Proofs.YtphhhnjeojdnkaaGreatDoor
open Go.RowKit
structure OpE where
  o : OpS
  A : Option Addr
  n : Nat
  c : Nat
def encO : Enc OpE := ⟨8, fun s => [.int .i64 s.o.kind, .int .i64 s.o.n, .int .i64 s.o.call.op, strV s.o.call.key, strV s.o.call.other, strV s.o.call.item, .int .i64 s.o.call.qty, .slice s.A s.n s.c], fun _ => rfl, fun s u hu => by
  simp only [List.mem_cons, List.not_mem_nil, or_false] at hu
  rcases hu with rfl | rfl | rfl | rfl | rfl | rfl | rfl | rfl <;> rfl⟩
def opCellsE (s : OpE) : Array Value := #[.int .i64 s.o.kind, .int .i64 s.o.n, .int .i64 s.o.call.op, strV s.o.call.key, strV s.o.call.other, strV s.o.call.item, .int .i64 s.o.call.qty, .slice s.A s.n s.c]
theorem infO : Inf Tryz.prog 41 encO 104 := by
  obtain ⟨i, h1, h2, h3, h4⟩ := info_parts (P := Tryz.prog) (show (Tryz.prog.info? 41).map (fun i => (i.zero, i.size, i.bytes)) = some (some (.agg #[.int .i64 0, .int .i64 0, .int .i64 0, .string .empty, .string .empty, .string .empty, .int .i64 0, .slice none 0 0]), 8, 104) by kernel_rfl)
  exact ⟨⟨i, _, h1, h2, h3, h4, rfl⟩, by decide, by decide⟩
structure OffO (w : World) (B : Nat) (r : Option Nat) (s : OpE) : Prop where
  sl : Sl encB w s.A s.n s.c s.o.call.data
  lt : ∀ a, s.A = some a -> a.block < w.heap.size
  off : ∀ a, s.A = some a -> some a.block ≠ r
  lo : ∀ a, s.A = some a -> B <= a.block
theorem OffO.mono {w w' : World} {B : Nat} {r : Option Nat} {s : OpE} (h : OffO w B r s) (hb : Below w.heap.size w w') : OffO w' B r s := ⟨h.sl.mono hb, fun a e => Nat.lt_of_lt_of_le (h.lt a e) hb.size, h.off, h.lo⟩
theorem Sl.grownOff {α : Type} {e : Enc α} {w w' : World} {A : Option Addr} {n c : Nat} {l : List α} {r : Option Nat} (h : Sl e w A n c l) (hg : w.grownBy w' r) (ho : ∀ a, A = some a -> some a.block ≠ r) : Sl e w' A n c l :=
  ⟨h.len, h.cap, h.max, h.nil, fun i x hi => by
    obtain ⟨b, o, rfl, hb, h1⟩ := h.cell i x hi
    exact ⟨b, o, rfl, Nat.lt_of_lt_of_le hb hg.size, fun j u hj => hg.cell (h1 j u hj) (ho ⟨b, o, none⟩ rfl)⟩⟩
def ORow (w : World) (B : Nat) (u : Value) (l : List OpS) : Prop := ∃ es : List OpE, es.map (·.o) = l ∧ OwnSl encO 41 w B u es ∧ ∀ s ∈ es, OffO w B u.ownBlock s
def OpsAt (w : World) (A : Option Addr) (n c : Nat) (l : List OpS) : Prop := ∃ es : List OpE, es.map (·.o) = l ∧ Sl encO w A n c es ∧ ∀ s ∈ es, Sl encB w s.A s.n s.c s.o.call.data
section
variable {w w' : World} {B : Nat} {u : Value} {l : List OpS}
theorem ORow.nil_ (w : World) (B : Nat) : ORow w B (.slice none 0 0) [] := ⟨[], rfl, OwnSl.nil_ _ _ _ _, fun _ h => nomatch h⟩
theorem ORow.mono (h : ORow w B u l) (hb : Below w.heap.size w w') : ORow w' B u l := let ⟨es, e, ho, hs⟩ := h; ⟨es, e, ho.mono hb, fun s hm => (hs s hm).mono hb⟩
theorem ORow.own (h : ORow w B u l) : ∀ q, u.ownBlock = some q -> B <= q ∧ q < w.heap.size := let ⟨_, _, ho, _⟩ := h; OwnSl.own ho
theorem ORow.low {B' : Nat} (h : ORow w B u l) (hB : B' <= B) : ORow w B' u l := let ⟨es, e, ho, hs⟩ := h; ⟨es, e, ho.low hB, fun s hm => let ⟨a, b, c, d⟩ := hs s hm; ⟨a, b, c, fun x e => Nat.le_trans hB (d x e)⟩⟩
theorem ORow.ops (h : ORow w B u l) : ∃ A c, u = .slice A l.length c ∧ OpsAt w A l.length c l := by
  obtain ⟨es, rfl, ho, hs⟩ := h
  obtain ⟨A, c, e, h1⟩ := OwnSl.sl ho
  rw [List.length_map]
  exact ⟨A, c, e, es, rfl, h1, fun s hm => (hs s hm).sl⟩
theorem OpsAt.mono {A : Option Addr} {n c : Nat} (h : OpsAt w A n c l) (hb : Below w.heap.size w w') : OpsAt w' A n c l := let ⟨es, e, h1, hs⟩ := h; ⟨es, e, h1.mono hb, fun s hm => (hs s hm).mono hb⟩
theorem OpsAt.len {A : Option Addr} {n c : Nat} (h : OpsAt w A n c l) : n = l.length := by
  obtain ⟨es, rfl, h1, _⟩ := h
  rw [List.length_map]; exact h1.len
theorem OpsAt.big {A : Option Addr} {n c : Nat} (h : OpsAt w A n c l) : n <= 9223372036854775807 := let ⟨_, _, h1, _⟩ := h; h1.big
theorem Sl.wrote {α : Type} {e : Enc α} {A : Option Addr} {n c N : Nat} {l : List α} (h : Sl e w A n c l) (hw : Wrote N none w w') (hn : ∀ a, A = some a -> a.block ≠ N) : Sl e w' A n c l :=
  ⟨h.len, h.cap, h.max, h.nil, fun i x hi => by
    obtain ⟨b, o, rfl, hb, h1⟩ := h.cell i x hi
    exact ⟨b, o, rfl, Nat.lt_of_lt_of_le hb hw.size, fun j u hj => hw.cell (h1 j u hj) (hn ⟨b, o, none⟩ rfl) (by simp)⟩⟩
theorem OwnSl.wrote {α : Type} {e : Enc α} {ty : TypeId} {N : Nat} {l : List α} (h : OwnSl e ty w B u l) (hw : Wrote N none w w') (hN : N < B) : OwnSl e ty w' B u l := by
  refine ⟨h.1, ?_⟩
  rcases h.2 with h2 | ⟨g, cap, cur, hv, hg, hh, r⟩
  · exact .inl h2
  · exact .inr ⟨g, cap, cur, hv, hg, (hw.block g (Array.getElem?_eq_some_iff.1 hh).1 (by omega) (by simp)).trans hh, r⟩
theorem ORow.wrote {N : Nat} (h : ORow w B u l) (hw : Wrote N none w w') (hN : N < B) : ORow w' B u l := by
  obtain ⟨es, e, ho, hs⟩ := h
  refine ⟨es, e, ho.wrote hw hN, fun s hm => ?_⟩
  have h := hs s hm
  exact ⟨h.sl.wrote hw (fun a e => by have := h.lo a e; omega), fun a e => Nat.lt_of_lt_of_le (h.lt a e) hw.size, h.off, h.lo⟩
end
theorem wpList_appOps {ops : Array Oper} {rest : List Oper} {o : Oper} {a : Act} {Q : Exit -> Act -> World -> Prop} {s x : Operand} {t : TypeId} {w : World} {B b : Nat} {u : Value} {l : List OpS} {e : OpE}
    (hgd : o.guard = none) (ho : o.op = .call { callee := .builtin .append, args := #[s, x], argTypes := #[t, t] }) (ht : Tryz.prog.underlying t = some (.slice 41)) (hsv : a.eval s = u) (hxv : a.eval x = .slice (some ⟨b, 0, none⟩) 1 1)
    (h : ORow w B u l) (hk : Sl encO w (some ⟨b, 0, none⟩) 1 1 [e]) (he : OffO w B u.ownBlock e) (hs : l.length + 1 <= 1000000) (hB : B <= w.heap.size)
    (K : ∀ u' w', ORow w' B u' (l ++ [e.o]) -> w.grownBy w' u.ownBlock -> wpList Tryz.prog ops Q rest (a.put o.dst u') w') : wpList Tryz.prog ops Q (o :: rest) a w := by
  obtain ⟨es, rfl, hown, hoff⟩ := h
  rw [List.length_map] at hs
  refine wpList_appS infO hgd ho ht hsv hxv hown hk (by simp; omega) hB ?_
  intro u' w' h2 hg hat
  refine K u' w' ⟨es ++ [e], by simp, h2, fun s hm => ?_⟩ hg
  have key : ∀ s : OpE, OffO w B u.ownBlock s -> OffO w' B u'.ownBlock s := by
    rintro s ⟨k1, k2, k3, k4⟩
    refine ⟨k1.grownOff hg k3, fun a e => Nat.lt_of_lt_of_le (k2 a e) hg.size, fun a e => ?_, k4⟩
    rcases hat with e2 | e2
    · rw [e2]; exact k3 a e
    · rw [e2]; intro e3
      have := k2 a e
      have e3 : a.block = w.heap.size := by simpa using e3
      omega
  rcases List.mem_append.1 hm with hm | hm
  · exact key s (hoff s hm)
  · rw [List.mem_singleton.1 hm]; exact key _ he
theorem newOp (w : World) (s : OpE) : Sl encO (w.alloc (.cells (opCellsE s) 41)) (some ⟨w.heap.size, 0, none⟩) 1 1 [s] := Sl.new encO w [s] (by simp) _ rfl _
end Go.Proofs.YtphhhnjeojdnkaaGreatDoor

/-
  Boxes of the call's own that are filled and read whole; the reader with bounds; script.start.
-/
namespace Go.Proofs.YtphhhnjeojdnkaaGreatDoor
open Go.RowKit
structure Bx (w : World) (J : Nat) (cs : List Value) : Prop where
  rng : w.rangeAt J 0 cs
  th : w.there J 0 cs.length
  lt : J < w.heap.size
section
variable {w w' : World} {J N B : Nat} {cs : List Value}
theorem Bx.same (h : Bx w J cs) (hb : w'.heap[J]? = w.heap[J]?) (hs : w.heap.size <= w'.heap.size) : Bx w' J cs :=
  ⟨fun j v hj => (World.cell?_of_block (a := ⟨J, 0 + j, none⟩) hb).trans (h.rng j v hj), fun j hj => by
    rw [World.cell?_of_block (a := ⟨J, 0 + j, none⟩) hb, World.frozen?_of_block (a := ⟨J, 0 + j, none⟩) hb]; exact h.th j hj, Nat.lt_of_lt_of_le h.lt hs⟩
theorem Bx.mono (h : Bx w J cs) (hb : Below w.heap.size w w') : Bx w' J cs := h.same (hb.block J h.lt) hb.size
theorem Bx.wrote {r : Option Nat} (h : Bx w J cs) (hw : Wrote N r w w') (hn : J ≠ N) (hr : some J ≠ r) : Bx w' J cs := h.same (hw.block J h.lt hn hr) hw.size
theorem Bx.new (w : World) (cs : Array Value) (ty : TypeId) : Bx (w.alloc (.cells cs ty)) w.heap.size cs.toList := by
  refine ⟨fun j v hj => ?_, fun j hj => ⟨?_, frozen_of_row _ _ _ _ ty (heap_alloc_new w _)⟩, (Array.getElem?_eq_some_iff.1 (heap_alloc_new w _)).1⟩
  · rw [Nat.zero_add, cell_of_row _ _ _ _ ty (0, 0) (heap_alloc_new w _), <- Array.getElem?_toList]; exact hj
  · rw [Nat.zero_add, cell_of_row _ _ _ _ ty (0, 0) (heap_alloc_new w _)]; simpa using hj
theorem Bx.cell (h : Bx w J cs) (j : Nat) {v : Value} (hj : cs[j]? = some v) : w.cell? ⟨J, j, none⟩ = some v := by
  have := h.rng j v hj
  rwa [Nat.zero_add] at this
theorem Bx.fr (h : Bx w J cs) (j : Nat) (hj : j < cs.length) : w.frozen? ⟨J, j, none⟩ = false := by
  have := (h.th j hj).2
  rwa [Nat.zero_add] at this
structure Upd (J : Nat) (w w' : World) : Prop where
  os : w'.os = w.os
  tape : w'.tape = w.tape
  output : w'.output = w.output
  size : w'.heap.size = w.heap.size
  block : ∀ k, k ≠ J -> w'.heap[k]? = w.heap[k]?
theorem Upd.below (h : Upd J w w') (hB : B <= J) : Below B w w' := ⟨h.os, h.tape, h.output, Nat.le_of_eq h.size.symm, fun k hk => h.block k (by omega)⟩
theorem Upd.wrote (h : Upd J w w') : Wrote J none w w' := ⟨h.os, h.tape, h.output, Nat.le_of_eq h.size.symm, fun k _ hk _ => h.block k hk⟩
theorem Upd.bx {K : Nat} {ds : List Value} (h : Upd J w w') (hb : Bx w K ds) (hn : K ≠ J) : Bx w' K ds := hb.same (h.block K hn) (Nat.le_of_eq h.size.symm)
theorem upd_cells (J : Nat) : ∀ (cs : List Value) (o : Nat) (w : World), Upd J w (w.setCells J o cs)
  | [], _, _ => ⟨rfl, rfl, rfl, rfl, fun _ _ => rfl⟩
  | v :: r, o, w => by
    rw [World.setCells]
    have h := upd_cells J r (o + 1) (w.setCell ⟨J, o, none⟩ v)
    exact ⟨h.os.trans rfl, h.tape.trans rfl, h.output.trans rfl, h.size.trans (by simp), fun k hk => (h.block k hk).trans (by unfold World.setCell; simp [Array.getElem?_modify]; intro e; exact absurd e.symm hk)⟩
end
theorem upd_cell {w : World} (J o : Nat) (v : Value) : Upd J w (w.setCell ⟨J, o, none⟩ v) := upd_cells J [v] o w
theorem halt_store {P : Program} {ops : Array Oper} {rest : List Oper} {a : Act} {w : World} {Q : Exit -> Act -> World -> Prop} {ty t2 : TypeId} {x y : Operand} {d : Option Tmp} {pos : String} {after : Array Edge} {g : Option (Nat × Bool)} (J : Nat) (hx : a.eval x = .pointer (some ⟨J, 0, none⟩)) (h : Halt (wpList P ops Q (⟨d, .store ty x y, t2, pos, after, g⟩ :: rest) a w)) : wpList P ops Q (⟨d, .store ty x y, t2, pos, after, g⟩ :: rest) a w := (fun _ => h) hx
theorem wpList_storeBx {P : Program} {ops : Array Oper} {rest : List Oper} {op : Oper} {a : Act} {w : World} {Q : Exit -> Act -> World -> Prop} {ty : TypeId} {x y : Operand} {J : Nat} {old : List Value} {cells : Array Value} (hgd : op.guard = none) (ho : op.op = .store ty x y) (hd : op.dst = none) (hx : a.eval x = .pointer (some ⟨J, 0, none⟩)) (hy : a.eval y = .agg cells)
    (hb : Bx w J old) (hi : (P.info? ty).map (·.size) = some cells.size) (hl : old.length = cells.size) (h1 : cells.all (·.oneCell') = true)
    (h : ∀ w', Bx w' J cells.toList -> Upd J w w' -> wpList P ops Q rest a w') : wpList P ops Q (op :: rest) a w := by
  have hth : w.there J 0 cells.size := by rw [<- hl]; exact hb.th
  have e := run_storeAt_mid (P := P) w J 0 ty cells hth hi h1
  have u := upd_cells J cells.toList 0 w
  refine wpList_store hgd ho hd hx hy e (h _ ⟨?_, ?_, ?_⟩ u)
  · exact World.rangeAt_setCells_same w J 0 cells.toList (by simpa using hth)
  · exact World.there_setCells (by simpa using hth) _ _ _
  · rw [u.size]; exact hb.lt
theorem results_bx {P : Program} {w : World} {J : Nat} {cs : List Value} {ty : TypeId} {d : TypeDesc} {fn : Func} {t : Tmp} {tmps : Array Value} (h : fn.results = #[.cell t ty]) (hp : tmps.getD t undef = .pointer (some ⟨J, 0, none⟩)) (hb : Bx w J cs) (hu : P.underlying ty = some d) (hd : d.isRow = true) (hi : (P.info? ty).map (·.size) = some cs.length) : (results fn tmps).run P w = .ok (.agg cs.toArray) w := by
  have L := run_loadVar_mid (P := P) w J 0 ty cs d hb.rng hu hd hi
  rw [Array.getD_eq_getD_getElem?] at hp
  simp [results, h, hp, asAddr, L]
theorem results_bx2 {P : Program} {w : World} {J : Nat} {cs : List Value} {ty : TypeId} {d : TypeDesc} {fn : Func} {t s : Tmp} {tmps : Array Value} {v : Value} (h : fn.results = #[.cell t ty, .tmp s]) (hp : tmps.getD t undef = .pointer (some ⟨J, 0, none⟩)) (hs : tmps.getD s undef = v) (hb : Bx w J cs) (hu : P.underlying ty = some d) (hd : d.isRow = true) (hi : (P.info? ty).map (·.size) = some cs.length) : (results fn tmps).run P w = .ok (.tuple #[.agg cs.toArray, v]) w := by
  have L := run_loadVar_mid (P := P) w J 0 ty cs d hb.rng hu hd hi
  rw [Array.getD_eq_getD_getElem?] at hp hs
  simp [results, h, hp, hs, asAddr, L]
structure RB (B N : Nat) (l : List UInt8) (w : World) : Prop where
  row : ∃ A n c, w.cell? ⟨N, 0, none⟩ = some (.slice A n c) ∧ Sl encB w A n c l ∧ ∀ a, A = some a -> a.block ≠ N ∧ a.block < B
  open_ : w.frozen? ⟨N, 0, none⟩ = false
  lt : N < B
section
variable {w w' : World} {J N B : Nat} {l : List UInt8}
theorem RB.keep (h : RB B N l w) (hb : Below B w w') (hB : B <= w.heap.size) : RB B N l w' := by
  obtain ⟨⟨A, n, c, h1, h2, h3⟩, h4, h5⟩ := h
  refine ⟨⟨A, n, c, (hb.cell (p := ⟨N, 0, none⟩) h5).trans h1, ⟨h2.len, h2.cap, h2.max, h2.nil, fun i x hi => ?_⟩, h3⟩, (hb.frozen (p := ⟨N, 0, none⟩) h5).trans h4, h5⟩
  obtain ⟨b, o, rfl, _, h6⟩ := h2.cell i x hi
  have hbl : b < B := (h3 ⟨b, o, none⟩ rfl).2
  exact ⟨b, o, rfl, Nat.lt_of_lt_of_le hbl (Nat.le_trans hB hb.size), fun j u hj => (hb.cell (p := ⟨b, _, none⟩) hbl).trans (h6 j u hj)⟩
end
def NPB (B N : Nat) (l : List UInt8) (w : World) (e : Ending) (w' : World) : Prop :=
  e = .returned (.int .i64 (byteAt l 0 : Nat)) ∧ Wrote N none w w' ∧ RB B N l.tail w'
theorem rnextB (B N : Nat) (l : List UInt8) (w : World) (h : RB B N l w) : Calls Tryz.prog 34 #[.pointer (some ⟨N, 0, none⟩)] w (NPB B N l w) := by
  obtain ⟨⟨A, n, c, c0, hs, hn⟩, hf, hlt⟩ := h
  have HLT := Lib.hid hlt
  clear hlt
  unfold NPB
  rw [<- headB_at]
  by_cases h0 : n = 0
  · subst h0
    have hl : l = [] := List.eq_nil_of_length_eq_zero hs.len.symm
    subst hl
    have HS := Lib.hid hs; have HN := Lib.hid hn
    clear hs hn
    go_enter Tryz.func34, Tryz.ntmps34
    go_wp2
    go_ret
    exact ⟨rfl, Wrote.ofBelow (Below.refl _ _), ⟨⟨A, 0, c, c0, HS.out, HN.out⟩, hf, HLT.out⟩⟩
  · obtain ⟨b, o, x, rfl, hb, h1, d1, e1⟩ := hs.byte (i := 0) (by omega)
    have hbig := hs.big; have hcap := hs.cap
    rw [Nat.add_zero] at e1
    have HS := Lib.hid hs; have HN := Lib.hid hn; have D1 := Lib.hid d1
    clear hs hn d1
    have h0' : ¬ ((n : Int) = 0) := by omega
    have h1' : (1 : Int) <= (n : Int) := by omega
    go_enter Tryz.func34, Tryz.ntmps34
    go_wp2
    all_goals go_ret
    · subst_vars
      refine ⟨congrArg (fun z => Ending.returned (.int .i64 z)) (headB_of h1), (Wrote.ofBelow (Below.refl _ _)).set_ _, ⟨⟨_, _, _, cell_set c0, Sl.setN (Sl.gone HS.out) (fun a e => ?_), ?_⟩, ?_, HLT.out⟩⟩
      · exact (HN.out a e).1
      · exact fun a e => HN.out a e
      · exact (World.frozen?_setCell _ _ _ _).trans hf
    · have hbn : b ≠ N ∧ b < B := HN.out _ rfl
      refine ⟨congrArg (fun z => Ending.returned (.int .i64 z)) (headB_of h1), (Wrote.ofBelow (Below.refl _ _)).set_ _, ⟨⟨_, _, _, cell_set c0, Sl.setN (Sl.tail HS.out) (fun a e => ?_), ?_⟩, ?_, HLT.out⟩⟩
      · cases e; exact hbn.1
      · intro a e; cases e; exact hbn
      · exact (World.frozen?_setCell _ _ _ _).trans hf
theorem below_trans {B : Nat} {w w1 w2 : World} (h : Below B w w1) (k : Below B w1 w2) : Below B w w2 := ⟨k.os.trans h.os, k.tape.trans h.tape, k.output.trans h.output, Nat.le_trans h.size k.size, fun i hi => (k.block i hi).trans (h.block i hi)⟩
theorem below_low {B C : Nat} {w w' : World} (h : Below C w w') (hB : B <= C) : Below B w w' := ⟨h.os, h.tape, h.output, h.size, fun k hk => h.block k (by omega)⟩
theorem Wrote.le {N : Nat} {r : Option Nat} {w w1 w2 : World} (h : Wrote N r w w1) (hb : Below w.heap.size w1 w2) : Wrote N r w w2 :=
  ⟨hb.os.trans h.os, hb.tape.trans h.tape, hb.output.trans h.output, Nat.le_trans h.size hb.size, fun k hk h1 h2 => (hb.block k hk).trans (h.block k hk h1 h2)⟩
end Go.Proofs.YtphhhnjeojdnkaaGreatDoor

/-
  A region whose order is open, some of whose operations write: those come up in one order, each behind the other; the rest as in XM.
  A relation of worlds (what may have changed), an invariant, and a state that the writing operations carry from one to the next.
-/
namespace Go.Proofs.YtphhhnjeojdnkaaGreatDoor
open Go.RowKit
structure Steps where
  I : World -> Prop
  S : World -> World -> Prop
  refl : ∀ {w}, I w -> S w w
  trans : ∀ {a b c}, S a b -> S b c -> S a c
  inv : ∀ {w w'}, I w -> S w w' -> I w'
  below : ∀ {w w'}, I w -> Below w.heap.size w w' -> S w w'
class Stays (R : Steps) (F : VT) : Prop where
  up : ∀ {w w' : World} {v : Value}, R.I w -> R.S w w' -> F w v -> F w' v
instance (R : Steps) (x : Value) : Stays R (Is x) := ⟨fun _ _ h => h⟩
def ObS (P : Program) (ops : List Oper) (R : Steps) (Ψ : World -> Prop) (Fs : List VT) (w0 : World) (a0 : Act) (i : Nat) (o : Oper) (F : VT) : Prop :=
  ∀ a, Cx ops Fs w0 a0 i o a w0 ->
    if Region.wanted o (yielded ops.toArray a.tmps) = true then o.wp P a w0 (fun a' w' => ∃ v, a' = a.put o.dst v ∧ R.S w0 w' ∧ Ψ w' ∧ F w' v) (fun _ _ _ => False) else Ψ w0 ∧ F w0 undef
section
variable {P : Program} {ops : List Oper} {w0 : World} {a0 : Act} {Q : Exit -> Act -> World -> Prop} {R : Steps} {Φ : Nat -> World -> Prop} {E : List Nat}
def ObX (P : Program) (ops : List Oper) (R : Steps) (Φ : Nat -> World -> Prop) (E : List Nat) (w0 : World) (a0 : Act) (Fs : List VT) (i : Nat) (o : Oper) (F : VT) : Prop :=
  (E.idxOf? i = none -> ∀ w, R.S w0 w -> R.I w -> Ob P ops Fs w a0 i o F) ∧ ∀ k, E.idxOf? i = some k -> ∀ w, R.S w0 w -> R.I w -> Φ k w -> ObS P ops R (Φ (k + 1)) Fs w a0 i o F
theorem ObX.weak {Fs : List VT} {F G : VT} {i : Nat} {o : Oper} (h : ObX P ops R Φ E w0 a0 Fs i o G) : ObX P ops R Φ E w0 a0 (Fs ++ [F]) i o G := by
  have hc : ∀ {u : World} {a : Act} {w : World}, Cx ops (Fs ++ [F]) u a0 i o a w -> Cx ops Fs u a0 i o a w := fun cx =>
    ⟨cx.le, cx.defers, cx.size, cx.old, fun j oj d G' he h1 h2 h3 => cx.new j oj d G' he h1 h2 (by rw [List.getElem?_append_left (List.getElem?_eq_some_iff.1 h3).1]; exact h3), cx.late⟩
  exact ⟨fun hE w hS hI a w' cx => h.1 hE w hS hI a w' (hc cx), fun k hk w hS hI hΦ a cx => h.2 k hk w hS hI hΦ a (hc cx)⟩
def reaches (ops : List Oper) : Nat -> Nat -> Nat -> Bool
  | 0, _, _ => false
  | fuel + 1, i, j => match ops[i]? with
    | none => false
    | some o => hasEdge o j || (List.range i).any fun k => hasEdge o k && reaches ops fuel k j
def okE (ops : List Oper) : List Nat -> Bool
  | e :: f :: r => decide (e < f) && decide (f < ops.length) && reaches ops ops.length f e && okE ops (f :: r)
  | [e] => decide (e < ops.length)
  | [] => true
theorem okE_lt : ∀ {E : List Nat} {j e f : Nat}, okE ops E = true -> E[j]? = some e -> E[j + 1]? = some f -> e < f ∧ reaches ops ops.length f e = true
  | [], _, _, _, _, h, _ => by simp at h
  | [_], 0, _, _, _, _, h => by simp at h
  | [_], j + 1, _, _, _, h, _ => by simp at h
  | a :: b :: r, 0, e, f, ok, h1, h2 => by
    simp at h1 h2; subst h1; subst h2
    simp only [okE, Bool.and_eq_true, decide_eq_true_eq] at ok
    exact ⟨ok.1.1.1, ok.1.2⟩
  | a :: b :: r, j + 1, e, f, ok, h1, h2 => by
    simp only [okE, Bool.and_eq_true] at ok
    exact okE_lt (E := b :: r) (j := j) ok.2 (by simpa using h1) (by simpa using h2)
theorem okE_in : ∀ {E : List Nat} {e : Nat}, okE ops E = true -> e ∈ E -> e < ops.length
  | [], _, _, h => nomatch h
  | [a], e, ok, h => by rw [List.mem_singleton.1 h]; simpa [okE] using ok
  | a :: b :: r, e, ok, h => by
    simp only [okE, Bool.and_eq_true, decide_eq_true_eq] at ok
    rcases List.mem_cons.1 h with rfl | h
    · omega
    · exact okE_in (E := b :: r) ok.2 h
theorem reaches_listed {listed : Array Bool} (hc : ∀ (j : Nat) (oj : Oper) (i : Nat), listed[j]? = some true -> ops[j]? = some oj -> hasEdge oj i = true -> listed[i]? = some true) :
    ∀ (fuel i j : Nat) (o : Oper), ops[i]? = some o -> (∀ k, hasEdge o k = true -> listed[k]? = some true) -> reaches ops fuel i j = true -> listed[j]? = some true
  | 0, _, _, _, _, _, h => by simp [reaches] at h
  | fuel + 1, i, j, o, ho, he, h => by
    simp only [reaches, ho, Bool.or_eq_true, List.any_eq_true, Bool.and_eq_true] at h
    rcases h with h | ⟨k, _, h1, h2⟩
    · exact he j h
    · have hk := he k h1
      cases hok : ops[k]? with
      | none => cases fuel <;> simp [reaches, hok] at h2
      | some q => exact reaches_listed hc fuel k j q hok (fun m hm => hc k q m hk hok hm) h2
def Upto (E : List Nat) (listed : Array Bool) (k : Nat) : Prop := k <= E.length ∧ ∀ j e, E[j]? = some e -> (listed[e]? = some true ↔ j < k)
theorem upto_at {listed : Array Bool} {k i j : Nat} {o : Oper} (ok : okE ops E = true) (hu : Upto E listed k) (hi : listed[i]? = some false) (ho : ops[i]? = some o) (hj : E.idxOf? i = some j) (hc : ∀ (j : Nat) (oj : Oper) (i : Nat), listed[j]? = some true -> ops[j]? = some oj -> hasEdge oj i = true -> listed[i]? = some true)
    (he : ∀ m, hasEdge o m = true -> listed[m]? = some true) : j = k := by
  have hEj : E[j]? = some i := by
    have := List.of_findIdx?_eq_some (p := (· == i)) (xs := E) (i := j) (by simpa [List.idxOf?] using hj)
    cases h : E[j]? with
    | none => rw [h] at this; simp at this
    | some x => rw [h] at this; simp at this; rw [this]
  have h1 := (hu.2 j i hEj)
  rw [hi] at h1
  have h2 : ¬ j < k := fun h => by have := h1.2 h; simp at this
  rcases Nat.lt_or_ge k j with h3 | h3
  · exfalso
    obtain ⟨e0, hp⟩ : ∃ e0, E[j - 1]? = some e0 := ⟨_, List.getElem?_eq_getElem (by have := (List.getElem?_eq_some_iff.1 hEj).1; omega)⟩
    obtain ⟨_, hr⟩ := okE_lt ok hp (by rw [show j - 1 + 1 = j by omega]; exact hEj)
    have h4 := reaches_listed hc _ _ _ o ho he hr
    have := (hu.2 (j - 1) _ hp).1 h4
    omega
  · omega
theorem okE_mono (ok : okE ops E = true) : ∀ {i j e f : Nat}, E[i]? = some e -> E[j]? = some f -> i < j -> e < f := by
  intro i j
  induction j with
  | zero => intro e f _ _ h; omega
  | succ j ih =>
    intro e f h1 h2 h
    obtain ⟨e0, hp⟩ : ∃ e0, E[j]? = some e0 := ⟨_, List.getElem?_eq_getElem (by have := (List.getElem?_eq_some_iff.1 h2).1; omega)⟩
    have h3 := (okE_lt ok hp h2).1
    rcases Nat.lt_or_ge i j with h4 | h4
    · have := ih h1 hp h4; omega
    · have : i = j := by omega
      subst this; rw [hp] at h1; cases h1; exact h3
theorem Upto.next {listed : Array Bool} {k i : Nat} (ok : okE ops E = true) (hs : i < listed.size) (hu : Upto E listed k) (hEk : E[k]? = some i) : Upto E (listed.setIfInBounds i true) (k + 1) := by
  refine ⟨(List.getElem?_eq_some_iff.1 hEk).1, fun j e hj => ?_⟩
  by_cases hei : i = e
  · subst hei
    have : j = k := by
      rcases Nat.lt_trichotomy j k with h | h | h
      · have := okE_mono ok hj hEk h; omega
      · exact h
      · have := okE_mono ok hEk hj h; omega
    subst this
    simp [hs]
  · rw [Array.getElem?_setIfInBounds_ne hei, hu.2 j e hj]
    refine ⟨fun h => by omega, fun h => ?_⟩
    rcases Nat.lt_or_ge j k with h1 | h1
    · exact h1
    · have : j = k := by omega
      subst this; rw [hEk] at hj; cases hj; exact absurd rfl hei
theorem Upto.free {listed : Array Bool} {k i : Nat} (hu : Upto E listed k) (hE : E.idxOf? i = none) : Upto E (listed.setIfInBounds i true) k := by
  refine ⟨hu.1, fun j e hj => ?_⟩
  have hei : i ≠ e := fun h => by
    subst h
    have hm := List.mem_of_getElem? hj
    rw [List.idxOf?_eq_none_iff] at hE
    exact hE hm
  rw [Array.getElem?_setIfInBounds_ne hei]
  exact hu.2 j e hj
structure InvS (ops : List Oper) (R : Steps) (Φ : Nat -> World -> Prop) (E : List Nat) (Gs : List VT) (w0 : World) (a0 : Act) (listed : Array Bool) (a : Act) (w : World) : Prop where
  le : R.S w0 w
  inv : R.I w
  at_ : ∃ k, Upto E listed k ∧ Φ k w
  defers : a.defers = a0.defers
  size : a.tmps.size = a0.tmps.size
  lsize : ops.length <= listed.size
  old : ∀ t, some t ∉ dstsOf ops -> a.tmps.getD t undef = a0.tmps.getD t undef
  done : ∀ (j : Nat) (oj : Oper) (d : Tmp) (G : VT), listed[j]? = some true -> ops[j]? = some oj -> oj.dst = some d -> Gs[j]? = some G -> G w (a.tmps.getD d undef)
  closed : ∀ (j : Nat) (oj : Oper) (i : Nat), listed[j]? = some true -> ops[j]? = some oj -> hasEdge oj i = true -> listed[i]? = some true
  todo : ∀ (j : Nat) (oj : Oper) (d : Tmp), listed[j]? = some false -> ops[j]? = some oj -> oj.dst = some d -> a.tmps.getD d undef = a0.tmps.getD d undef
theorem InvS.put {Gs : List VT} {listed : Array Bool} {a : Act} {w w' : World} (hok : okM a0.tmps.size 0 ops [] = true) (hg : ∀ (i : Nat) (F : VT), Gs[i]? = some F -> Stays R F) (h : InvS ops R Φ E Gs w0 a0 listed a w) (hb : R.S w w')
    {i : Nat} {o : Oper} {v : Value} (hi : ops[i]? = some o) (hat : ∃ k, Upto E (listed.setIfInBounds i true) k ∧ Φ k w') (hed : ∀ j, hasEdge o j = true -> listed[j]? = some true) (hv : ∀ G, Gs[i]? = some G -> G w' v) : InvS ops R Φ E Gs w0 a0 (listed.setIfInBounds i true) (a.put o.dst v) w' := by
  obtain ⟨s1, s2⟩ := okM_spec hok
  obtain ⟨⟨d, hd, hdn, _⟩, _⟩ := s1 i o hi
  have hil : i < ops.length := (List.getElem?_eq_some_iff.1 hi).1
  have hls : i < listed.size := Nat.lt_of_lt_of_le hil h.lsize
  rw [hd]
  refine ⟨R.trans h.le hb, R.inv h.inv hb, hat, h.defers, by simp [Act.put, h.size], by simpa using h.lsize, fun t ht => ?_, fun j oj dj G hj ho hdj hG => ?_, fun j oj dj hj ho hdj => ?_, fun j oj dj hj ho hdj => ?_⟩
  · rw [getD_put, if_neg, h.old t ht]
    rintro ⟨rfl, _⟩
    exact ht (List.mem_map.2 ⟨o, List.mem_of_getElem? hi, hd⟩)
  · by_cases hji : j = i
    · subst hji
      rw [hi] at ho; cases ho
      rw [hd] at hdj; cases hdj
      rw [getD_put, if_pos ⟨rfl, by rw [h.size]; exact hdn⟩]
      exact hv G hG
    · rw [Array.getElem?_setIfInBounds_ne (fun e => hji e.symm)] at hj
      rw [getD_put, if_neg]
      · exact (hg j G hG).up h.inv hb (h.done j oj dj G hj ho hdj hG)
      · rintro ⟨rfl, _⟩
        exact hji (s2 j i oj o ho hi (hdj.trans hd.symm))
  · have tr : ∀ k : Nat, listed[k]? = some true -> (listed.setIfInBounds i true)[k]? = some true := fun k hk => by
      by_cases hki : i = k
      · subst hki; simp [hls]
      · rw [Array.getElem?_setIfInBounds_ne hki]; exact hk
    by_cases hji : j = i
    · subst hji
      rw [hi] at ho; cases ho
      exact tr _ (hed _ hdj)
    · rw [Array.getElem?_setIfInBounds_ne (fun e => hji e.symm)] at hj
      exact tr _ (h.closed j oj dj hj ho hdj)
  · by_cases hji : j = i
    · subst hji
      simp [hls] at hj
    · rw [Array.getElem?_setIfInBounds_ne (fun e => hji e.symm)] at hj
      rw [getD_put, if_neg]
      · exact h.todo j oj dj hj ho hdj
      · rintro ⟨rfl, _⟩
        exact hji (s2 j i oj o ho hi (hdj.trans hd.symm))
variable {Fs : List VT} {i : Nat} {o : Oper} {Ψ : World -> Prop} {d : Option Tmp} {ty : TypeId} {pos : String} {after : Array Edge} {g : Option (Nat × Bool)}
end
end Go.Proofs.YtphhhnjeojdnkaaGreatDoor

/-
  As XMS, with a tail behind the first n operations, which has but one order.
-/
namespace Go.Proofs.YtphhhnjeojdnkaaGreatDoor
open Go.RowKit
section
variable {P : Program} {ops : List Oper} {w0 : World} {a0 : Act} {Q : Exit -> Act -> World -> Prop} {R : Steps} {Φ : Nat -> World -> Prop} {E : List Nat}
end
end Go.Proofs.YtphhhnjeojdnkaaGreatDoor
