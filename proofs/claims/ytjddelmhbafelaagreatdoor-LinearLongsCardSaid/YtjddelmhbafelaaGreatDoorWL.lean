/-
  The rules for the single operations, for the walk of XM.
-/
import Derived.Test.YtjddelmhbafelaaGreatDoorWA
import Derived.Laws.OwnMore
import Derived.Maps.AppendAt
import Derived.Deep.MidRow
import Derived.Laws.MakeOwn
import Derived.Test.YtjddelmhbafelaaGreatDoorWD
import Derived.Test.YtjddelmhbafelaaGreatDoorWE
import Derived.Deep.Upon
import Derived.Test.YtjddelmhbafelaaGreatDoorWK
import Derived.Test.YtjddelmhbafelaaGreatDoorRows
import Derived.ProofKit
import Derived.WideKeyArgs
import Derived.Deep.SlicePairs
import Derived.Lib.SmallJoins
import Derived.KernelRfl
set_option linter.unusedSectionVars false
set_option linter.unusedVariables false
set_option linter.unusedSimpArgs false
namespace Go.Proofs.YtjddelmhbafelaaGreatDoor
open Go.RowKit

section
variable {P : Program} {ops : List Oper} {Fs : List VT} {w0 : World} {a0 : Act} {i : Nat} {o : Oper}

/-- The operand x has the property G whenever operation i comes up. -/
def Has (ops : List Oper) (Fs : List VT) (w0 : World) (a0 : Act) (i : Nat) (o : Oper) (x : Operand) (G : VT) : Prop := ∀ a w, Cx ops Fs w0 a0 i o a w → G w (a.eval x)
/-- Its guard, if it has one, lets it run. -/
def Wanted (ops : List Oper) (Fs : List VT) (w0 : World) (a0 : Act) (i : Nat) (o : Oper) : Prop := ∀ a w, Cx ops Fs w0 a0 i o a w → Region.wanted o (yielded ops.toArray a.tmps) = true

theorem Has.cst (v : Value) : Has ops Fs w0 a0 i o (.const v) (Is v) := fun _ _ _ => rfl
theorem Has.old {t : Tmp} {G : VT} (v : Value) (hn : (dstsOf ops).contains (some t) = false) (hv : a0.tmps.getD t undef = v) (hG : ∀ w, Below w0.heap.size w0 w → G w v) : Has ops Fs w0 a0 i o (.tmp t) G := fun a w cx => by
  have : a.eval (.tmp t) = v := (cx.old t (by simpa using hn)).trans hv
  rw [this]; exact hG w cx.le
theorem slot_of {a : Act} {t : Tmp} {v : Value} (h : a.tmps.toList[t]? = some v) : a.tmps.getD t undef = v := by rw [Array.getD_eq_getD_getElem?, ← Array.getElem?_toList, h]; rfl
theorem Has.oldIs {t : Tmp} {v : Value} (hn : (dstsOf ops).contains (some t) = false := by kernel_rfl) (hv : a0.tmps.toList[t]? = some v := by exact rfl) : Has ops Fs w0 a0 i o (.tmp t) (Is v) := Has.old v hn (slot_of hv) fun _ _ => rfl
theorem Has.late {t : Tmp} {v : Value} (j : Nat) {oj : Oper} (ho : ops[j]? = some oj := by exact rfl) (he : hasEdge oj i = true := by exact rfl) (hd : oj.dst = some t := by exact rfl) (hv : a0.tmps.toList[t]? = some v := by exact rfl) : Has ops Fs w0 a0 i o (.tmp t) (Is v) := fun _ _ cx => (cx.late j oj t ho he hd).trans (slot_of hv)
/-- The slot that operation j writes. -/
def dstAt (ops : List Oper) (j : Nat) : Option Tmp := (ops[j]?).bind (·.dst)
theorem back {RF : List VT} {j k : Nat} {G : VT} (hl : RF.length = j + k + 1) (hF : RF[k]? = some G) : RF.reverse[j]? = some G := by
  rw [List.getElem?_reverse (by omega), ← hF]; congr 1; omega
theorem dstAt_some {j : Nat} {t : Tmp} (h : dstAt ops j = some t) : ∃ oj, ops[j]? = some oj ∧ oj.dst = some t := by
  unfold dstAt at h
  cases ho : ops[j]? with
  | none => rw [ho] at h; cases h
  | some oj => rw [ho] at h; exact ⟨oj, rfl, h⟩
theorem Has.new {t : Tmp} {G : VT} {RF : List VT} (j k : Nat) (hF : RF[k]? = some G := by exact rfl) (hl : RF.length = j + k + 1 := by kernel_rfl) (hd : dstAt ops j = some t := by kernel_rfl) (he : hasEdge o j = true := by kernel_rfl) : Has ops RF.reverse w0 a0 i o (.tmp t) G := fun _ _ cx => by
  obtain ⟨oj, h1, h2⟩ := dstAt_some hd
  exact cx.new j oj t G he h1 h2 (back hl hF)
theorem Has.weak {x : Operand} {G H : VT} (h : Has ops Fs w0 a0 i o x G) (k : ∀ w v, G w v → H w v) : Has ops Fs w0 a0 i o x H := fun a w cx => k _ _ (h a w cx)

theorem Wanted.free (h : o.guard = none := by exact rfl) : Wanted ops Fs w0 a0 i o := fun _ _ _ => by simp [Region.wanted, h]
theorem wanted_of {j : Nat} {want b : Bool} {oj : Oper} {t : Tmp} {a : Act} {w : World} (hg : o.guard = some (j, want)) (ho : ops[j]? = some oj) (hd : oj.dst = some t) (hv : IsB b w (a.tmps.getD t undef)) : Region.wanted o (yielded ops.toArray a.tmps) = (b == want) := by
  have e : a.tmps[t]? = some (.bool b) := by
    have hv : a.tmps.getD t undef = .bool b := hv
    rw [Array.getD_eq_getD_getElem?] at hv
    cases h : a.tmps[t]? with
    | none => rw [h] at hv; simp at hv; cases hv
    | some u => rw [h] at hv; simp at hv; rw [hv]
  simp [Region.wanted, hg, yielded, ho, hd, e]
theorem Wanted.on {RF : List VT} (j k : Nat) {want : Bool} (hg : o.guard = some (j, want) := by exact rfl) (hF : RF[k]? = some (IsB want) := by exact rfl) (hl : RF.length = j + k + 1 := by kernel_rfl) (hd : (dstAt ops j).isSome = true := by kernel_rfl) (he : hasEdge o j = true := by kernel_rfl) : Wanted ops RF.reverse w0 a0 i o := fun a w cx => by
  obtain ⟨t, hd⟩ := Option.isSome_iff_exists.1 hd
  obtain ⟨oj, h1, h2⟩ := dstAt_some hd
  rw [wanted_of hg h1 h2 (cx.new j oj t _ he h1 h2 (back hl hF))]; simp

/-- The guard shuts it out: nothing is laid. -/
theorem Ob.off {RF : List VT} (j k : Nat) {want b : Bool} (hg : o.guard = some (j, want) := by exact rfl) (hF : RF[k]? = some (IsB b) := by exact rfl) (hl : RF.length = j + k + 1 := by kernel_rfl) (hd : (dstAt ops j).isSome = true := by kernel_rfl) (he : hasEdge o j = true := by kernel_rfl) (hne : (b == want) = false := by exact rfl) : Ob P ops RF.reverse w0 a0 i o (Is undef) := fun a w cx => by
  obtain ⟨t, hd⟩ := Option.isSome_iff_exists.1 hd
  obtain ⟨oj, h1, h2⟩ := dstAt_some hd
  rw [wanted_of hg h1 h2 (cx.new j oj t _ he h1 h2 (back hl hF)), hne]; exact rfl

/-- The guard's own operation was shut out. -/
theorem Ob.offU {RF : List VT} (j k : Nat) {want : Bool} (hg : o.guard = some (j, want) := by exact rfl) (hF : RF[k]? = some (Is undef) := by exact rfl) (hl : RF.length = j + k + 1 := by kernel_rfl) (hd : (dstAt ops j).isSome = true := by kernel_rfl) (he : hasEdge o j = true := by kernel_rfl) : Ob P ops RF.reverse w0 a0 i o (Is undef) := fun a w cx => by
  obtain ⟨t, hd⟩ := Option.isSome_iff_exists.1 hd
  obtain ⟨oj, ho, h2⟩ := dstAt_some hd
  have hv : a.tmps.getD t undef = undef := cx.new j oj t _ he ho h2 (back hl hF)
  have : Region.wanted o (yielded ops.toArray a.tmps) = false := by
    cases h : a.tmps[t]? with
    | none => simp [Region.wanted, hg, yielded, ho, h2, h]
    | some u =>
      rw [Array.getD_eq_getD_getElem?, h] at hv
      simp at hv
      subst hv
      simp [Region.wanted, hg, yielded, ho, h2, h, undef]
  rw [this]; exact rfl
theorem Ob.any {F : VT} (hw : Wanted ops Fs w0 a0 i o) (h : ∀ a w, Cx ops Fs w0 a0 i o a w → ∃ r w', (execOp a.eval o).run P w = .ok (.value r) w' ∧ Below w.heap.size w w' ∧ F w' r) : Ob P ops Fs w0 a0 i o F := fun a w cx => by
  rw [if_pos (hw a w cx)]
  obtain ⟨r, w', hr, hb, hF⟩ := h a w cx
  unfold Oper.wp
  rw [hr]
  exact ⟨r, rfl, hb, hF⟩
theorem Ob.stay {F : VT} (hw : Wanted ops Fs w0 a0 i o) (h : ∀ a w, Cx ops Fs w0 a0 i o a w → ∃ r, (execOp a.eval o).run P w = .ok (.value r) w ∧ F w r) : Ob P ops Fs w0 a0 i o F :=
  Ob.any hw fun a w cx => let ⟨r, h1, h2⟩ := h a w cx; ⟨r, w, h1, Below.refl _ _, h2⟩

variable {d : Option Tmp} {ty : TypeId} {pos : String} {after : Array Edge} {g : Option (Nat × Bool)}
theorem Ob.move {x : Operand} {F : VT} (hw : Wanted ops Fs w0 a0 i ⟨d, .move x, ty, pos, after, g⟩) (hx : Has ops Fs w0 a0 i ⟨d, .move x, ty, pos, after, g⟩ x F) : Ob P ops Fs w0 a0 i ⟨d, .move x, ty, pos, after, g⟩ F :=
  Ob.stay hw fun a w cx => ⟨_, by simp [execOp], hx a w cx⟩
theorem Ob.assign {x : Operand} {F : VT} (hw : Wanted ops Fs w0 a0 i ⟨d, .assign x, ty, pos, after, g⟩) (hx : Has ops Fs w0 a0 i ⟨d, .assign x, ty, pos, after, g⟩ x F) : Ob P ops Fs w0 a0 i ⟨d, .assign x, ty, pos, after, g⟩ F :=
  Ob.stay hw fun a w cx => ⟨_, by simp [execOp], hx a w cx⟩
theorem run_pick (ρ : Operand → Value) {c x y : Operand} {b : Bool} (h : ρ c = .bool b) (w : World) : (execOp ρ ⟨d, .pick c x y, ty, pos, after, g⟩).run P w = .ok (.value (if b then ρ x else ρ y)) w := by simp [execOp, asBool, h]
theorem run_not (ρ : Operand → Value) {x : Operand} {t : TypeId} {b : Bool} (h : ρ x = .bool b) (w : World) : (execOp ρ ⟨d, .unOp .not t x, ty, pos, after, g⟩).run P w = .ok (.value (.bool (!b))) w := by simp [execOp, h, go_sem]
theorem Ob.pickT {c x y : Operand} {F : VT} (hw : Wanted ops Fs w0 a0 i ⟨d, .pick c x y, ty, pos, after, g⟩) (hc : Has ops Fs w0 a0 i ⟨d, .pick c x y, ty, pos, after, g⟩ c (IsB true)) (hx : Has ops Fs w0 a0 i ⟨d, .pick c x y, ty, pos, after, g⟩ x F) : Ob P ops Fs w0 a0 i ⟨d, .pick c x y, ty, pos, after, g⟩ F :=
  Ob.stay hw fun a w cx => ⟨a.eval x, by rw [run_pick a.eval (hc a w cx)]; rfl, hx a w cx⟩
theorem Ob.pickF {c x y : Operand} {F : VT} (hw : Wanted ops Fs w0 a0 i ⟨d, .pick c x y, ty, pos, after, g⟩) (hc : Has ops Fs w0 a0 i ⟨d, .pick c x y, ty, pos, after, g⟩ c (IsB false)) (hy : Has ops Fs w0 a0 i ⟨d, .pick c x y, ty, pos, after, g⟩ y F) : Ob P ops Fs w0 a0 i ⟨d, .pick c x y, ty, pos, after, g⟩ F :=
  Ob.stay hw fun a w cx => ⟨a.eval y, by rw [run_pick a.eval (hc a w cx)]; rfl, hy a w cx⟩
theorem Ob.not {x : Operand} {b : Bool} {t : TypeId} (hw : Wanted ops Fs w0 a0 i ⟨d, .unOp .not t x, ty, pos, after, g⟩) (hx : Has ops Fs w0 a0 i ⟨d, .unOp .not t x, ty, pos, after, g⟩ x (IsB b)) : Ob P ops Fs w0 a0 i ⟨d, .unOp .not t x, ty, pos, after, g⟩ (IsB (!b)) :=
  Ob.stay hw fun a w cx => ⟨_, run_not a.eval (hx a w cx) w, rfl⟩
theorem Ob.load {x : Operand} {G F : VT} {t : TypeId} (hw : Wanted ops Fs w0 a0 i ⟨d, .load t x, ty, pos, after, g⟩) (hx : Has ops Fs w0 a0 i ⟨d, .load t x, ty, pos, after, g⟩ x G)
    (h : ∀ w v, Below w0.heap.size w0 w → G w v → ∃ r, (Instr.loadAt t v).run P w = .ok r w ∧ F w r) : Ob P ops Fs w0 a0 i ⟨d, .load t x, ty, pos, after, g⟩ F :=
  Ob.stay hw fun a w cx => by
    obtain ⟨r, h1, h2⟩ := h w _ cx.le (hx a w cx)
    exact ⟨r, by simp [execOp, h1], h2⟩
theorem Ob.fieldAddr {x : Operand} {G F : VT} {t : TypeId} {f : Nat} (hw : Wanted ops Fs w0 a0 i ⟨d, .fieldAddr t x f, ty, pos, after, g⟩) (hx : Has ops Fs w0 a0 i ⟨d, .fieldAddr t x f, ty, pos, after, g⟩ x G)
    (h : ∀ w v, Below w0.heap.size w0 w → G w v → ∃ r, (Instr.fieldAt t v f).run P w = .ok r w ∧ F w r) : Ob P ops Fs w0 a0 i ⟨d, .fieldAddr t x f, ty, pos, after, g⟩ F :=
  Ob.stay hw fun a w cx => by
    obtain ⟨r, h1, h2⟩ := h w _ cx.le (hx a w cx)
    exact ⟨r, by simp [execOp, h1], h2⟩
theorem Ob.extract {x : Operand} {G F : VT} {n : Nat} (hw : Wanted ops Fs w0 a0 i ⟨d, .extract x n, ty, pos, after, g⟩) (hx : Has ops Fs w0 a0 i ⟨d, .extract x n, ty, pos, after, g⟩ x G)
    (h : ∀ w v, Below w0.heap.size w0 w → G w v → ∃ r, (Instr.extract v n).run P w = .ok r w ∧ F w r) : Ob P ops Fs w0 a0 i ⟨d, .extract x n, ty, pos, after, g⟩ F :=
  Ob.stay hw fun a w cx => by
    obtain ⟨r, h1, h2⟩ := h w _ cx.le (hx a w cx)
    exact ⟨r, by simp [execOp, h1], h2⟩
theorem Ob.indexAddr {x y : Operand} {G H F : VT} {t : TypeId} (hw : Wanted ops Fs w0 a0 i ⟨d, .indexAddr t x y, ty, pos, after, g⟩) (hx : Has ops Fs w0 a0 i ⟨d, .indexAddr t x y, ty, pos, after, g⟩ x G) (hy : Has ops Fs w0 a0 i ⟨d, .indexAddr t x y, ty, pos, after, g⟩ y H)
    (h : ∀ w u v, Below w0.heap.size w0 w → G w u → H w v → ∃ r, (Instr.indexAt t u v).run P w = .ok r w ∧ F w r) : Ob P ops Fs w0 a0 i ⟨d, .indexAddr t x y, ty, pos, after, g⟩ F :=
  Ob.stay hw fun a w cx => by
    obtain ⟨r, h1, h2⟩ := h w _ _ cx.le (hx a w cx) (hy a w cx)
    exact ⟨r, by simp [execOp, h1], h2⟩
theorem Ob.bin {x y : Operand} {G H F : VT} {b : BinOp} {t t' : TypeId} (hw : Wanted ops Fs w0 a0 i ⟨d, .binOp b t x y t', ty, pos, after, g⟩) (hx : Has ops Fs w0 a0 i ⟨d, .binOp b t x y t', ty, pos, after, g⟩ x G) (hy : Has ops Fs w0 a0 i ⟨d, .binOp b t x y t', ty, pos, after, g⟩ y H)
    (h : ∀ w u v, Below w0.heap.size w0 w → G w u → H w v → ∃ r, (eqGuard b t x y u v).run P w = .ok () w ∧ (binOp b t u v).run P w = .ok r w ∧ F w r) : Ob P ops Fs w0 a0 i ⟨d, .binOp b t x y t', ty, pos, after, g⟩ F :=
  Ob.stay hw fun a w cx => by
    obtain ⟨r, h0, h1, h2⟩ := h w _ _ cx.le (hx a w cx) (hy a w cx)
    exact ⟨r, by simp [execOp, h0, h1], h2⟩
theorem Ob.buildSlice {F : VT} {t : TypeId} {n : Nat} {ps : Array (Nat × Operand)} (hw : Wanted ops Fs w0 a0 i ⟨d, .buildSlice t n ps, ty, pos, after, g⟩)
    (h : ∀ a w, Cx ops Fs w0 a0 i ⟨d, .buildSlice t n ps, ty, pos, after, g⟩ a w → ∃ r w', (Instr.buildSlice t n (ps.map fun (i, x) => (i, a.eval x))).run P w = .ok r w' ∧ Below w.heap.size w w' ∧ F w' r) : Ob P ops Fs w0 a0 i ⟨d, .buildSlice t n ps, ty, pos, after, g⟩ F :=
  Ob.any hw fun a w cx => by
    obtain ⟨r, w', h1, h2, h3⟩ := h a w cx
    exact ⟨r, w', by simp [execOp, h1], h2, h3⟩

theorem Ob.loadV {x : Operand} {p r : Value} {t : TypeId} (hw : Wanted ops Fs w0 a0 i ⟨d, .load t x, ty, pos, after, g⟩) (hx : Has ops Fs w0 a0 i ⟨d, .load t x, ty, pos, after, g⟩ x (Is p))
    (h : ∀ w, Below w0.heap.size w0 w → (Instr.loadAt t p).run P w = .ok r w) : Ob P ops Fs w0 a0 i ⟨d, .load t x, ty, pos, after, g⟩ (Is r) :=
  Ob.load hw hx fun w v hb e => ⟨r, by rw [show v = p from e]; exact h w hb, rfl⟩
theorem Ob.fieldV {x : Operand} {p r : Value} {t : TypeId} {f : Nat} (hw : Wanted ops Fs w0 a0 i ⟨d, .fieldAddr t x f, ty, pos, after, g⟩) (hx : Has ops Fs w0 a0 i ⟨d, .fieldAddr t x f, ty, pos, after, g⟩ x (Is p))
    (h : ∀ w, (Instr.fieldAt t p f).run P w = .ok r w) : Ob P ops Fs w0 a0 i ⟨d, .fieldAddr t x f, ty, pos, after, g⟩ (Is r) :=
  Ob.fieldAddr hw hx fun w v _ e => ⟨r, by rw [show v = p from e]; exact h w, rfl⟩
theorem Ob.indexV {x y : Operand} {p q r : Value} {t : TypeId} (hw : Wanted ops Fs w0 a0 i ⟨d, .indexAddr t x y, ty, pos, after, g⟩) (hx : Has ops Fs w0 a0 i ⟨d, .indexAddr t x y, ty, pos, after, g⟩ x (Is p)) (hy : Has ops Fs w0 a0 i ⟨d, .indexAddr t x y, ty, pos, after, g⟩ y (Is q))
    (h : ∀ w, (Instr.indexAt t p q).run P w = .ok r w) : Ob P ops Fs w0 a0 i ⟨d, .indexAddr t x y, ty, pos, after, g⟩ (Is r) :=
  Ob.indexAddr hw hx hy fun w u v _ e e' => ⟨r, by rw [show u = p from e, show v = q from e']; exact h w, rfl⟩
theorem Ob.binV {x y : Operand} {p q r : Value} {b : BinOp} {t t' : TypeId} (hw : Wanted ops Fs w0 a0 i ⟨d, .binOp b t x y t', ty, pos, after, g⟩) (hx : Has ops Fs w0 a0 i ⟨d, .binOp b t x y t', ty, pos, after, g⟩ x (Is p)) (hy : Has ops Fs w0 a0 i ⟨d, .binOp b t x y t', ty, pos, after, g⟩ y (Is q))
    (h : ∀ w, (eqGuard b t x y p q).run P w = .ok () w ∧ (Go.binOp b t p q).run P w = .ok r w) : Ob P ops Fs w0 a0 i ⟨d, .binOp b t x y t', ty, pos, after, g⟩ (Is r) :=
  Ob.bin hw hx hy fun w u v _ e e' => ⟨r, by rw [show u = p from e, show v = q from e']; exact (h w).1, by rw [show u = p from e, show v = q from e']; exact (h w).2, rfl⟩
theorem Ob.lenV {x : Operand} {p r : Value} {t : TypeId} (hw : Wanted ops Fs w0 a0 i ⟨d, .call ⟨.builtin .len, #[x], #[t]⟩, ty, pos, after, g⟩) (hx : Has ops Fs w0 a0 i ⟨d, .call ⟨.builtin .len, #[x], #[t]⟩, ty, pos, after, g⟩ x (Is p))
    (h : ∀ w, (Builtin.len_ #[t] ty #[p]).run P w = .ok r w) : Ob P ops Fs w0 a0 i ⟨d, .call ⟨.builtin .len, #[x], #[t]⟩, ty, pos, after, g⟩ (Is r) :=
  Ob.stay hw fun a w cx => ⟨r, by
    have h1 : a.eval x = p := hx a w cx
    have h2 := h w
    generalize a.eval = ρ at h1
    simp [execOp, resolve, invoke, builtin, h1, h2], rfl⟩
theorem run_call {f : FuncId} {args : Array Operand} {tys : Array TypeId} (he : Enters P f) (a : Act) (w : World) : (execOp a.eval ⟨d, .call ⟨.value (.func f), args, tys⟩, ty, pos, after, g⟩).run P w = .ok (.enter f (args.map a.eval)) w := by
  have := he (args.map a.eval) w
  simp [execOp, resolve, Act.eval, Deferred.ofValue, invoke, this]
theorem Ob.call {f : FuncId} {args : Array Operand} {tys : Array TypeId} {F : VT} (hw : Wanted ops Fs w0 a0 i ⟨d, .call ⟨.value (.func f), args, tys⟩, ty, pos, after, g⟩) (he : Enters P f)
    (h : ∀ a w, Cx ops Fs w0 a0 i ⟨d, .call ⟨.value (.func f), args, tys⟩, ty, pos, after, g⟩ a w → Calls P f (args.map a.eval) w (Ret w F)) : Ob P ops Fs w0 a0 i ⟨d, .call ⟨.value (.func f), args, tys⟩, ty, pos, after, g⟩ F := fun a w cx => by
  rw [if_pos (hw a w cx)]
  unfold Oper.wp
  rw [run_call he a w]
  refine (h a w cx).mono ?_
  rintro e w' ⟨v, rfl, hb, hF⟩
  exact ⟨v, rfl, hb, hF⟩
theorem Ob.call0 {f : FuncId} {tys : Array TypeId} {F : VT} (hw : Wanted ops Fs w0 a0 i ⟨d, .call ⟨.value (.func f), #[], tys⟩, ty, pos, after, g⟩) (he : Enters P f)
    (h : ∀ w, Below w0.heap.size w0 w → Calls P f #[] w (Ret w F)) : Ob P ops Fs w0 a0 i ⟨d, .call ⟨.value (.func f), #[], tys⟩, ty, pos, after, g⟩ F := Ob.call hw he fun a w cx => by rw [List.map_toArray]; exact h w cx.le
theorem Ob.call1 {f : FuncId} {tys : Array TypeId} {x : Operand} {G F : VT} (hw : Wanted ops Fs w0 a0 i ⟨d, .call ⟨.value (.func f), #[x], tys⟩, ty, pos, after, g⟩) (he : Enters P f)
    (hx : Has ops Fs w0 a0 i ⟨d, .call ⟨.value (.func f), #[x], tys⟩, ty, pos, after, g⟩ x G)
    (h : ∀ w v, Below w0.heap.size w0 w → G w v → Calls P f #[v] w (Ret w F)) : Ob P ops Fs w0 a0 i ⟨d, .call ⟨.value (.func f), #[x], tys⟩, ty, pos, after, g⟩ F := Ob.call hw he fun a w cx => by rw [List.map_toArray]; exact h w _ cx.le (hx a w cx)
theorem Ob.call2 {f : FuncId} {tys : Array TypeId} {x y : Operand} {G H F : VT} (hw : Wanted ops Fs w0 a0 i ⟨d, .call ⟨.value (.func f), #[x, y], tys⟩, ty, pos, after, g⟩) (he : Enters P f)
    (hx : Has ops Fs w0 a0 i ⟨d, .call ⟨.value (.func f), #[x, y], tys⟩, ty, pos, after, g⟩ x G) (hy : Has ops Fs w0 a0 i ⟨d, .call ⟨.value (.func f), #[x, y], tys⟩, ty, pos, after, g⟩ y H)
    (h : ∀ w u v, Below w0.heap.size w0 w → G w u → H w v → Calls P f #[u, v] w (Ret w F)) : Ob P ops Fs w0 a0 i ⟨d, .call ⟨.value (.func f), #[x, y], tys⟩, ty, pos, after, g⟩ F := Ob.call hw he fun a w cx => by rw [List.map_toArray]; exact h w _ _ cx.le (hx a w cx) (hy a w cx)
theorem Ob.call3 {f : FuncId} {tys : Array TypeId} {x y z : Operand} {G H K F : VT} (hw : Wanted ops Fs w0 a0 i ⟨d, .call ⟨.value (.func f), #[x, y, z], tys⟩, ty, pos, after, g⟩) (he : Enters P f)
    (hx : Has ops Fs w0 a0 i ⟨d, .call ⟨.value (.func f), #[x, y, z], tys⟩, ty, pos, after, g⟩ x G) (hy : Has ops Fs w0 a0 i ⟨d, .call ⟨.value (.func f), #[x, y, z], tys⟩, ty, pos, after, g⟩ y H) (hz : Has ops Fs w0 a0 i ⟨d, .call ⟨.value (.func f), #[x, y, z], tys⟩, ty, pos, after, g⟩ z K)
    (h : ∀ w u v s, Below w0.heap.size w0 w → G w u → H w v → K w s → Calls P f #[u, v, s] w (Ret w F)) : Ob P ops Fs w0 a0 i ⟨d, .call ⟨.value (.func f), #[x, y, z], tys⟩, ty, pos, after, g⟩ F := Ob.call hw he fun a w cx => by rw [List.map_toArray]; exact h w _ _ _ cx.le (hx a w cx) (hy a w cx) (hz a w cx)
theorem Ob.call4 {f : FuncId} {tys : Array TypeId} {x y z q : Operand} {G H K L F : VT} (hw : Wanted ops Fs w0 a0 i ⟨d, .call ⟨.value (.func f), #[x, y, z, q], tys⟩, ty, pos, after, g⟩) (he : Enters P f)
    (hx : Has ops Fs w0 a0 i ⟨d, .call ⟨.value (.func f), #[x, y, z, q], tys⟩, ty, pos, after, g⟩ x G) (hy : Has ops Fs w0 a0 i ⟨d, .call ⟨.value (.func f), #[x, y, z, q], tys⟩, ty, pos, after, g⟩ y H) (hz : Has ops Fs w0 a0 i ⟨d, .call ⟨.value (.func f), #[x, y, z, q], tys⟩, ty, pos, after, g⟩ z K) (hq : Has ops Fs w0 a0 i ⟨d, .call ⟨.value (.func f), #[x, y, z, q], tys⟩, ty, pos, after, g⟩ q L)
    (h : ∀ w u v s r, Below w0.heap.size w0 w → G w u → H w v → K w s → L w r → Calls P f #[u, v, s, r] w (Ret w F)) : Ob P ops Fs w0 a0 i ⟨d, .call ⟨.value (.func f), #[x, y, z, q], tys⟩, ty, pos, after, g⟩ F := Ob.call hw he fun a w cx => by rw [List.map_toArray]; exact h w _ _ _ _ cx.le (hx a w cx) (hy a w cx) (hz a w cx) (hq a w cx)
theorem Ob.call1V {f : FuncId} {tys : Array TypeId} {x : Operand} {p1 : Value} {F : VT} (hw : Wanted ops Fs w0 a0 i ⟨d, .call ⟨.value (.func f), #[x], tys⟩, ty, pos, after, g⟩) (he : Enters P f) (hx : Has ops Fs w0 a0 i ⟨d, .call ⟨.value (.func f), #[x], tys⟩, ty, pos, after, g⟩ x (Is p1))
    (h : ∀ w, Below w0.heap.size w0 w → Calls P f #[p1] w (Ret w F)) : Ob P ops Fs w0 a0 i ⟨d, .call ⟨.value (.func f), #[x], tys⟩, ty, pos, after, g⟩ F := Ob.call1 hw he hx fun w v0 hb e0 => by unfold Is at *; subst e0; exact h w hb
theorem Ob.call2V {f : FuncId} {tys : Array TypeId} {x y : Operand} {p1 p2 : Value} {F : VT} (hw : Wanted ops Fs w0 a0 i ⟨d, .call ⟨.value (.func f), #[x, y], tys⟩, ty, pos, after, g⟩) (he : Enters P f) (hx : Has ops Fs w0 a0 i ⟨d, .call ⟨.value (.func f), #[x, y], tys⟩, ty, pos, after, g⟩ x (Is p1)) (hy : Has ops Fs w0 a0 i ⟨d, .call ⟨.value (.func f), #[x, y], tys⟩, ty, pos, after, g⟩ y (Is p2))
    (h : ∀ w, Below w0.heap.size w0 w → Calls P f #[p1, p2] w (Ret w F)) : Ob P ops Fs w0 a0 i ⟨d, .call ⟨.value (.func f), #[x, y], tys⟩, ty, pos, after, g⟩ F := Ob.call2 hw he hx hy fun w v0 v1 hb e0 e1 => by unfold Is at *; subst e0; subst e1; exact h w hb
theorem Ob.call3V {f : FuncId} {tys : Array TypeId} {x y z : Operand} {p1 p2 p3 : Value} {F : VT} (hw : Wanted ops Fs w0 a0 i ⟨d, .call ⟨.value (.func f), #[x, y, z], tys⟩, ty, pos, after, g⟩) (he : Enters P f) (hx : Has ops Fs w0 a0 i ⟨d, .call ⟨.value (.func f), #[x, y, z], tys⟩, ty, pos, after, g⟩ x (Is p1)) (hy : Has ops Fs w0 a0 i ⟨d, .call ⟨.value (.func f), #[x, y, z], tys⟩, ty, pos, after, g⟩ y (Is p2)) (hz : Has ops Fs w0 a0 i ⟨d, .call ⟨.value (.func f), #[x, y, z], tys⟩, ty, pos, after, g⟩ z (Is p3))
    (h : ∀ w, Below w0.heap.size w0 w → Calls P f #[p1, p2, p3] w (Ret w F)) : Ob P ops Fs w0 a0 i ⟨d, .call ⟨.value (.func f), #[x, y, z], tys⟩, ty, pos, after, g⟩ F := Ob.call3 hw he hx hy hz fun w v0 v1 v2 hb e0 e1 e2 => by unfold Is at *; subst e0; subst e1; subst e2; exact h w hb
theorem Ob.call4V {f : FuncId} {tys : Array TypeId} {x y z q : Operand} {p1 p2 p3 p4 : Value} {F : VT} (hw : Wanted ops Fs w0 a0 i ⟨d, .call ⟨.value (.func f), #[x, y, z, q], tys⟩, ty, pos, after, g⟩) (he : Enters P f) (hx : Has ops Fs w0 a0 i ⟨d, .call ⟨.value (.func f), #[x, y, z, q], tys⟩, ty, pos, after, g⟩ x (Is p1)) (hy : Has ops Fs w0 a0 i ⟨d, .call ⟨.value (.func f), #[x, y, z, q], tys⟩, ty, pos, after, g⟩ y (Is p2)) (hz : Has ops Fs w0 a0 i ⟨d, .call ⟨.value (.func f), #[x, y, z, q], tys⟩, ty, pos, after, g⟩ z (Is p3)) (hq : Has ops Fs w0 a0 i ⟨d, .call ⟨.value (.func f), #[x, y, z, q], tys⟩, ty, pos, after, g⟩ q (Is p4))
    (h : ∀ w, Below w0.heap.size w0 w → Calls P f #[p1, p2, p3, p4] w (Ret w F)) : Ob P ops Fs w0 a0 i ⟨d, .call ⟨.value (.func f), #[x, y, z, q], tys⟩, ty, pos, after, g⟩ F := Ob.call4 hw he hx hy hz hq fun w v0 v1 v2 v3 hb e0 e1 e2 e3 => by unfold Is at *; subst e0; subst e1; subst e2; subst e3; exact h w hb
end

theorem mixed : Tryz.prog.follows .mixedOrders = true := by kernel_rfl
section
variable {w0 w : World} {b o : Nat}
theorem load_dot {x y : Int} (hb : Below w0.heap.size w0 w) (h1 : w0.cell? ⟨b, o, none⟩ = some (.int .i64 x)) (h2 : w0.cell? ⟨b, o + 1, none⟩ = some (.int .i64 y)) : (Instr.loadAt 143 (.pointer (some ⟨b, o, none⟩))).run Tryz.prog w = .ok (.agg #[.int .i64 x, .int .i64 y]) w := by
  have c1 := cellKeep hb h1
  have c2 := cellKeep hb h2
  simp [go_sem, c1, c2]
theorem load_int {x : Int} (hb : Below w0.heap.size w0 w) (h1 : w0.cell? ⟨b, o, none⟩ = some (.int .i64 x)) : (Instr.loadAt 3 (.pointer (some ⟨b, o, none⟩))).run Tryz.prog w = .ok (.int .i64 x) w := by
  have c1 := cellKeep hb h1
  simp [go_sem, c1]
theorem field_dot0 : (Instr.fieldAt 143 (.pointer (some ⟨b, o, none⟩)) 0).run Tryz.prog w = .ok (.pointer (some ⟨b, o, none⟩)) w := by simp [go_sem]
theorem field_dot1 : (Instr.fieldAt 143 (.pointer (some ⟨b, o, none⟩)) 1).run Tryz.prog w = .ok (.pointer (some ⟨b, o + 1, none⟩)) w := by simp [go_sem]

theorem index_vec {n c k : Nat} (hk : k < n) : (Instr.indexAt 127 (.slice (some ⟨b, o, none⟩) n c) (.int .i64 (k : Int))).run Tryz.prog w = .ok (.pointer (some ⟨b, o + k * 2, none⟩)) w := by
  have h1 : (0 : Int) ≤ (k : Int) := by omega
  have h2 : (k : Int) < (n : Int) := by omega
  simp [go_sem, h1, h2]
theorem index_dots {n c k : Nat} (hk : k < n) : (Instr.indexAt 126 (.slice (some ⟨b, o, none⟩) n c) (.int .i64 (k : Int))).run Tryz.prog w = .ok (.pointer (some ⟨b, o + k * 2, none⟩)) w := by
  have h1 : (0 : Int) ≤ (k : Int) := by omega
  have h2 : (k : Int) < (n : Int) := by omega
  simp [go_sem, h1, h2]
theorem sub_one {x y : Operand} {k : Nat} (hk : k + 1 ≤ 9223372036854775807) : (eqGuard .sub 3 x y (.int .i64 ((k + 1 : Nat) : Int)) (.int .i64 1)).run Tryz.prog w = .ok () w ∧ (Go.binOp .sub 3 (.int .i64 ((k + 1 : Nat) : Int)) (.int .i64 1)).run Tryz.prog w = .ok (.int .i64 (k : Int)) w := by
  have e : IntKind.i64.wrap (k : Int) = k := IntWalk.i64_in _ (by omega)
  constructor
  · simp [go_sem]
  · simp [go_sem, e]
theorem field_con0 : (Instr.fieldAt 129 (.pointer (some ⟨b, o, none⟩)) 0).run Tryz.prog w = .ok (.pointer (some ⟨b, o, none⟩)) w := by simp [go_sem]
theorem field_con1 : (Instr.fieldAt 129 (.pointer (some ⟨b, o, none⟩)) 1).run Tryz.prog w = .ok (.pointer (some ⟨b, o + 1, none⟩)) w := by simp [go_sem]
theorem load_vec {A : Option Addr} {n c : Nat} (hb : Below w0.heap.size w0 w) (h1 : w0.cell? ⟨b, o, none⟩ = some (.slice A n c)) : (Instr.loadAt 127 (.pointer (some ⟨b, o, none⟩))).run Tryz.prog w = .ok (.slice A n c) w := by
  have c1 := cellKeep hb h1
  simp [go_sem, c1]
theorem load_dots {A : Option Addr} {n c : Nat} (hb : Below w0.heap.size w0 w) (h1 : w0.cell? ⟨b, o, none⟩ = some (.slice A n c)) : (Instr.loadAt 126 (.pointer (some ⟨b, o, none⟩))).run Tryz.prog w = .ok (.slice A n c) w := by
  have c1 := cellKeep hb h1
  simp [go_sem, c1]
theorem load_con {A B : Option Addr} {n c m d : Nat} (hb : Below w0.heap.size w0 w) (h1 : w0.cell? ⟨b, o, none⟩ = some (.slice A n c)) (h2 : w0.cell? ⟨b, o + 1, none⟩ = some (.slice B m d)) : (Instr.loadAt 129 (.pointer (some ⟨b, o, none⟩))).run Tryz.prog w = .ok (.agg #[.slice A n c, .slice B m d]) w := by
  have c1 := cellKeep hb h1
  have c2 := cellKeep hb h2
  simp [go_sem, c1, c2]
theorem int_add {x y : Operand} {a c : Int} (r : Int) (h : IntKind.i64.wrap (a + c) = r) : (eqGuard .add 3 x y (.int .i64 a) (.int .i64 c)).run Tryz.prog w = .ok () w ∧ (Go.binOp .add 3 (.int .i64 a) (.int .i64 c)).run Tryz.prog w = .ok (.int .i64 r) w := by subst h; simp [go_sem]
theorem len_dots {A : Option Addr} {n c : Nat} {ty : TypeId} : (Builtin.len_ #[126] ty #[.slice A n c]).run Tryz.prog w = .ok (.int .i64 (n : Int)) w := by simp [go_sem]
theorem len_vec {A : Option Addr} {n c : Nat} {ty : TypeId} : (Builtin.len_ #[127] ty #[.slice A n c]).run Tryz.prog w = .ok (.int .i64 (n : Int)) w := by simp [go_sem]
/-- Tests on integers and bools. -/
theorem int_gtr {x y : Operand} {k : IntKind} {t : TypeId} {a c : Int} (r : Bool) (h : (decide (c < a)) = r) : (eqGuard .gtr t x y (.int k a) (.int k c)).run Tryz.prog w = .ok () w ∧ (Go.binOp .gtr t (.int k a) (.int k c)).run Tryz.prog w = .ok (.bool r) w := by subst h; simp [go_sem]
theorem int_geq {x y : Operand} {k : IntKind} {t : TypeId} {a c : Int} (r : Bool) (h : (decide (c ≤ a)) = r) : (eqGuard .geq t x y (.int k a) (.int k c)).run Tryz.prog w = .ok () w ∧ (Go.binOp .geq t (.int k a) (.int k c)).run Tryz.prog w = .ok (.bool r) w := by subst h; simp [go_sem]
theorem int_lss {x y : Operand} {k : IntKind} {t : TypeId} {a c : Int} (r : Bool) (h : (decide (a < c)) = r) : (eqGuard .lss t x y (.int k a) (.int k c)).run Tryz.prog w = .ok () w ∧ (Go.binOp .lss t (.int k a) (.int k c)).run Tryz.prog w = .ok (.bool r) w := by subst h; simp [go_sem]
theorem int_leq {x y : Operand} {k : IntKind} {t : TypeId} {a c : Int} (r : Bool) (h : (decide (a ≤ c)) = r) : (eqGuard .leq t x y (.int k a) (.int k c)).run Tryz.prog w = .ok () w ∧ (Go.binOp .leq t (.int k a) (.int k c)).run Tryz.prog w = .ok (.bool r) w := by subst h; simp [go_sem]
theorem int_eql {x y : Operand} {k : IntKind} {t : TypeId} {a c : Int} (r : Bool) (h : (a == c) = r) : (eqGuard .eql t x y (.int k a) (.int k c)).run Tryz.prog w = .ok () w ∧ (Go.binOp .eql t (.int k a) (.int k c)).run Tryz.prog w = .ok (.bool r) w := by subst h; simp [go_sem]
theorem int_neq {x y : Operand} {k : IntKind} {t : TypeId} {a c : Int} (r : Bool) (h : (a != c) = r) : (eqGuard .neq t x y (.int k a) (.int k c)).run Tryz.prog w = .ok () w ∧ (Go.binOp .neq t (.int k a) (.int k c)).run Tryz.prog w = .ok (.bool r) w := by subst h; simp [go_sem]
theorem bool_neq {x y : Operand} {a c : Bool} (r : Bool) (h : (a != c) = r) : (eqGuard .neq 4 x y (.bool a) (.bool c)).run Tryz.prog w = .ok () w ∧ (Go.binOp .neq 4 (.bool a) (.bool c)).run Tryz.prog w = .ok (.bool r) w := by subst h; cases a <;> cases c <;> simp [go_sem]
theorem bool_eql {x y : Operand} {a c : Bool} (r : Bool) (h : (a == c) = r) : (eqGuard .eql 4 x y (.bool a) (.bool c)).run Tryz.prog w = .ok () w ∧ (Go.binOp .eql 4 (.bool a) (.bool c)).run Tryz.prog w = .ok (.bool r) w := by subst h; simp [go_sem]
end
end Go.Proofs.YtjddelmhbafelaaGreatDoor

/-
  Rows of dots of the call's own: an append, a clone.
-/
namespace Go.Proofs.YtjddelmhbafelaaGreatDoor
open Go.RowKit

def dcells (l : List Dot) : List Value := l.flatMap fun d => [.int .i64 d.1, .int .i64 d.2]
theorem dcells_cons (d : Dot) (l : List Dot) : dcells (d :: l) = .int .i64 d.1 :: .int .i64 d.2 :: dcells l := rfl
theorem dcells_append (a b : List Dot) : dcells (a ++ b) = dcells a ++ dcells b := by unfold dcells; rw [List.flatMap_append]
theorem dcells_length : ∀ l : List Dot, (dcells l).length = l.length * 2
  | [] => rfl
  | d :: l => by rw [dcells_cons]; simp only [List.length_cons, dcells_length l]; omega
theorem dcells_get : ∀ (l : List Dot) (i : Nat) (d : Dot), l[i]? = some d → (dcells l)[i * 2]? = some (.int .i64 d.1) ∧ (dcells l)[i * 2 + 1]? = some (.int .i64 d.2)
  | [], i, d, h => by simp at h
  | a :: l, 0, d, h => by simp at h; subst h; exact ⟨rfl, rfl⟩
  | a :: l, i + 1, d, h => by
    have := dcells_get l i d (by simpa using h)
    rw [dcells_cons, show (i + 1) * 2 = i * 2 + 1 + 1 by omega]
    simpa using this
theorem dcells_at (l : List Dot) (j : Nat) (u : Value) (h : (dcells l)[j]? = some u) : ∃ i d, l[i]? = some d ∧ ((j = i * 2 ∧ u = .int .i64 d.1) ∨ (j = i * 2 + 1 ∧ u = .int .i64 d.2)) := by
  have hl : j < l.length * 2 := by rw [← dcells_length]; exact (List.getElem?_eq_some_iff.1 h).1
  have hi : j / 2 < l.length := by omega
  obtain ⟨h1, h2⟩ := dcells_get l (j / 2) l[j / 2] (List.getElem?_eq_getElem hi)
  refine ⟨j / 2, l[j / 2], List.getElem?_eq_getElem hi, ?_⟩
  rcases Nat.mod_two_eq_zero_or_one j with hm | hm
  · left
    have e : j = j / 2 * 2 := by omega
    rw [← e, h] at h1
    exact ⟨e, by simpa using h1⟩
  · right
    have e : j = j / 2 * 2 + 1 := by omega
    rw [← e, h] at h2
    exact ⟨e, by simpa using h2⟩
theorem dcells_one (l : List Dot) : ∀ u ∈ dcells l, u.oneCell' = true := by
  intro u hu
  obtain ⟨j, hj⟩ := List.getElem?_of_mem hu
  obtain ⟨i, d, _, h | h⟩ := dcells_at l j u hj <;> rw [h.2] <;> rfl
theorem add_lit (b o j : Nat) : (⟨b, o, none⟩ : Addr).add j = ⟨b, o + j, none⟩ := by unfold Addr.add; split <;> simp_all
theorem Dots.cells {w : World} {A : Option Addr} {n c : Nat} {l : List Dot} (h : Dots w A n c l) {a : Addr} (hA : A = some a) (j : Nat) (u : Value) (hu : (dcells l)[j]? = some u) : w.cell? (a.add j) = some u := by
  obtain ⟨i, d, hi, hh⟩ := dcells_at l j u hu
  obtain ⟨b, o, e, _, h1, h2⟩ := h.cell i d hi
  rw [hA] at e; cases e
  rw [add_lit]
  rcases hh with ⟨rfl, rfl⟩ | ⟨rfl, rfl⟩
  · exact h1
  · exact h2

/-- The address of a cut 's[k:]' (at the capacity it stays). -/
def cutA (A : Option Addr) (c k : Nat) : Option Addr := if c = k then A else A.map (·.add (k * 2))
theorem slice_to_dots {w : World} {A : Option Addr} {n c k : Nat} (h : k ≤ c) : (Instr.sliceAt 126 (.slice A n c) none (some (.int .i64 (k : Int))) none).run Tryz.prog w = .ok (.slice A k c) w := by
  have h1 : (0 : Int) ≤ (k : Int) := by omega
  have h2 : (k : Int) ≤ (c : Int) := by omega
  simp [go_sem, h1, h2]
theorem slice_from_dots {w : World} {A : Option Addr} {n c k : Nat} (h : k ≤ n) (hc : n ≤ c) : (Instr.sliceAt 126 (.slice A n c) (some (.int .i64 (k : Int))) none none).run Tryz.prog w = .ok (.slice (cutA A c k) (n - k) (c - k)) w := by
  have h1 : (0 : Int) ≤ (k : Int) := by omega
  have h2 : (k : Int) ≤ (n : Int) := by omega
  have h3 : (n : Int) ≤ (c : Int) := by omega
  unfold cutA
  simp [go_sem, h1, h2]
theorem slice_to_vec {w : World} {A : Option Addr} {n c k : Nat} (h : k ≤ c) : (Instr.sliceAt 127 (.slice A n c) none (some (.int .i64 (k : Int))) none).run Tryz.prog w = .ok (.slice A k c) w := by
  have h1 : (0 : Int) ≤ (k : Int) := by omega
  have h2 : (k : Int) ≤ (c : Int) := by omega
  simp [go_sem, h1, h2]
theorem slice_from_vec {w : World} {A : Option Addr} {n c k : Nat} (h : k ≤ n) (hc : n ≤ c) : (Instr.sliceAt 127 (.slice A n c) (some (.int .i64 (k : Int))) none none).run Tryz.prog w = .ok (.slice (cutA A c k) (n - k) (c - k)) w := by
  have h1 : (0 : Int) ≤ (k : Int) := by omega
  have h2 : (k : Int) ≤ (n : Int) := by omega
  have h3 : (n : Int) ≤ (c : Int) := by omega
  unfold cutA
  simp [go_sem, h1, h2]
theorem Dots.take {w : World} {A : Option Addr} {n c k : Nat} {l : List Dot} (h : Dots w A n c l) (hk : k ≤ n) : Dots w A k c (l.take k) :=
  ⟨by rw [List.length_take, ← h.len]; omega, Nat.le_trans hk h.cap, h.max, h.nil, fun i d hi => h.cell i d (by rw [List.getElem?_take] at hi; split at hi; exact hi; cases hi)⟩
theorem Dots.drop {w : World} {A : Option Addr} {n c k : Nat} {l : List Dot} (h : Dots w A n c l) (hk : k ≤ n) : Dots w (cutA A c k) (n - k) (c - k) (l.drop k) := by
  refine ⟨by rw [List.length_drop, ← h.len], by have := h.cap; omega, by have := h.max; omega, fun e => ?_, fun i d hi => ?_⟩
  · by_cases hc : c = k
    · omega
    · unfold cutA at e; rw [if_neg hc] at e
      have : A = none := by cases A with | none => rfl | some a => cases e
      have := h.nil this; omega
  · rw [List.getElem?_drop] at hi
    obtain ⟨b, o, rfl, hb, h1, h2⟩ := h.cell _ d hi
    have hl : k + i < l.length := (List.getElem?_eq_some_iff.1 hi).1
    have hc : ¬ c = k := by have := h.cap; have := h.len; omega
    unfold cutA; rw [if_neg hc]
    refine ⟨b, o + k * 2, by simp [add_lit], hb, ?_, ?_⟩
    · rw [show o + k * 2 + i * 2 = o + (k + i) * 2 by omega]; exact h1
    · rw [show o + k * 2 + i * 2 + 1 = o + (k + i) * 2 + 1 by omega]; exact h2

/-- A row of the call's own, from block B on, that reads as a list of dots. -/
def Row (w : World) (B : Nat) (v : Value) (l : List Dot) : Prop := w.ownsRow B 143 2 v l.length (dcells l)
section
variable {w w' : World} {B : Nat} {v : Value} {l : List Dot}
theorem Row.mono (h : Row w B v l) (hb : Below w.heap.size w w') : Row w' B v l := by
  refine ⟨h.1, ?_⟩
  rcases h.2 with h2 | ⟨g, cap, cur, hv, hg, hh, r⟩
  · exact .inl h2
  · exact .inr ⟨g, cap, cur, hv, hg, (hb.block g (Array.getElem?_eq_some_iff.1 hh).1).trans hh, r⟩
theorem Row.low (h : Row w B v l) {B' : Nat} (hB : B' ≤ B) : Row w B' v l := by
  refine ⟨h.1, ?_⟩
  rcases h.2 with h2 | ⟨g, cap, cur, hv, hg, r⟩
  · exact .inl h2
  · exact .inr ⟨g, cap, cur, hv, by omega, r⟩
theorem Row.dots (h : Row w B v l) : ∃ A c, v = .slice A l.length c ∧ Dots w A l.length c l := by
  rcases h.2 with ⟨rfl, h0⟩ | ⟨g, cap, cur, rfl, hg, hh, hn, hm, hs, ht⟩
  · have : l = [] := List.eq_nil_of_length_eq_zero h0
    subst this
    exact ⟨none, 0, rfl, Dots.nil_⟩
  · refine ⟨some ⟨g, 0, none⟩, cap, rfl, rfl, hn, hm, (fun e => nomatch e), fun i d hi => ?_⟩
    obtain ⟨h1, h2⟩ := dcells_get l i d hi
    have hil : i < l.length := (List.getElem?_eq_some_iff.1 hi).1
    refine ⟨g, 0, rfl, (Array.getElem?_eq_some_iff.1 hh).1, ?_, ?_⟩
    · rw [cell_of_row w g _ cur _ (0, 0) hh]
      rw [← ht, List.getElem?_take] at h1
      split at h1
      · simpa using h1
      · cases h1
    · rw [cell_of_row w g _ cur _ (0, 0) hh]
      rw [← ht, List.getElem?_take] at h2
      split at h2
      · simpa using h2
      · cases h2
theorem Row.nil_ (w : World) (B : Nat) : Row w B (.slice none 0 0) [] := World.ownsRow_nil w B _ 2
end
def IsRow (B : Nat) (l : List Dot) (w : World) (v : Value) : Prop := Row w B v l
def IsDots (l : List Dot) (w : World) (v : Value) : Prop := ∃ A n c, v = .slice A n c ∧ Dots w A n c l
instance (B : Nat) (l : List Dot) : Grows (IsRow B l) := ⟨fun hb h => Row.mono h hb⟩
instance (l : List Dot) : Grows (IsDots l) := ⟨fun hb ⟨A, n, c, e, h⟩ => ⟨A, n, c, e, h.mono hb⟩⟩
theorem IsRow.dots {B : Nat} {l : List Dot} {w : World} {v : Value} (h : IsRow B l w v) : IsDots l w v := let ⟨A, c, e, h'⟩ := Row.dots h; ⟨A, _, c, e, h'⟩

theorem info_dot : ∃ i : TypeInfo, Tryz.prog.info? 143 = some i ∧ i.zero = some (.agg #[.int .i64 0, .int .i64 0]) ∧ i.size = 2 ∧ i.bytes = 16 := by
  obtain ⟨i, h1, h2, h3, h4⟩ := info_parts (P := Tryz.prog) (show (Tryz.prog.info? 143).map (fun i => (i.zero, i.size, i.bytes)) = some (some (.agg #[.int .i64 0, .int .i64 0]), 2, 16) by kernel_rfl)
  exact ⟨i, h1, h2, h3, h4⟩

/-- An append of dots onto a row of the call's own. -/
theorem run_app {t ty : TypeId} (ht : Tryz.prog.underlying t = some (.slice 143)) {w : World} {B : Nat} {v : Value} {l k : List Dot} {A : Option Addr} {n c : Nat} (h : Row w B v l) (hk : Dots w A n c k) (hs : l.length + k.length ≤ 1000000000) (hB : B ≤ w.heap.size) :
    ∃ v' w', (Builtin.append_ #[t, t] ty #[v, .slice A n c]).run Tryz.prog w = .ok v' w' ∧ Row w' B v' (l ++ k) ∧ w.grownBy w' v.ownBlock := by
  obtain ⟨i, hi, hz, hsz, hby⟩ := info_dot
  cases A with
  | none =>
    have hc := hk.nil rfl
    have hn : n = 0 := by have := hk.cap; omega
    subst hc; subst hn
    have hk0 : k = [] := List.eq_nil_of_length_eq_zero hk.len.symm
    subst hk0
    refine ⟨v, w, run_append_owned_none (P := Tryz.prog) (w := w) B t ty 143 i 2 ht hi v l.length (dcells l) h, by rw [List.append_nil]; exact h, ⟨rfl, rfl, rfl, Nat.le_refl _, fun _ _ _ => rfl⟩⟩
  | some a =>
    obtain ⟨v', w', h1, h2, h3, _⟩ := run_append_own (P := Tryz.prog) w B t ty 143 i _ 2 16 ht hi hz hsz hby rfl (by omega) v l.length (dcells l) h a n c (dcells k) (by rw [dcells_length, hk.len]) (fun j u hu => hk.cells rfl j u hu) (dcells_one k)
      (by rw [hk.len]; unfold maxLen; omega) (by rw [hk.len]; omega) hB
    refine ⟨v', w', h1, ?_, h3⟩
    unfold Row
    rw [List.length_append, dcells_append]
    rw [hk.len] at h2
    exact h2
/-- Where the row lies that an append gives: where it lay, or in a new block. -/
theorem run_app_block {t ty : TypeId} (ht : Tryz.prog.underlying t = some (.slice 143)) {w w' : World} {B : Nat} {v v' : Value} {l k : List Dot} {A : Option Addr} {n c : Nat} (h : Row w B v l) (hk : Dots w A n c k) (hs : l.length + k.length ≤ 1000000000)
    (hr : (Builtin.append_ #[t, t] ty #[v, .slice A n c]).run Tryz.prog w = .ok v' w') : ∀ g, v'.ownBlock = some g → v.ownBlock = some g ∨ w.heap.size ≤ g := by
  obtain ⟨i, hi, hz, hsz, hby⟩ := info_dot
  cases A with
  | none =>
    have hc := hk.nil rfl
    have hn : n = 0 := by have := hk.cap; omega
    subst hc; subst hn
    rw [run_append_owned_none (P := Tryz.prog) (w := w) B t ty 143 i 2 ht hi v l.length (dcells l) h] at hr
    cases hr
    exact fun g hg => .inl hg
  | some a =>
    have hnews : ∀ j u, (dcells k)[j]? = some u → w.cell? (a.add j) = some u := fun j u hu => hk.cells rfl j u hu
    have hlen : (dcells k).length = n * i.size := by rw [dcells_length, hk.len, hsz]
    have hkl := hk.len
    rcases h.2 with ⟨rfl, h0⟩ | ⟨g, cap, cur, rfl, hbg, hg, hnc, hcm, hcs, htake⟩
    · by_cases hm : n = 0
      · subst hm
        have hk0 : k = [] := List.eq_nil_of_length_eq_zero hkl.symm
        subst hk0
        have e : (Builtin.append_ #[t, t] ty #[.slice none 0 0, .slice (some a) 0 c]).run Tryz.prog w = .ok (.slice none 0 0) w := by
          simp [Builtin.append_, run_underlying ht, sizeOf, typeInfo, hi, Builtin.lenOf, Builtin.firstCells, loadCells, loadCellsFrom]
        rw [e] at hr; cases hr
        exact fun g hg => .inl hg
      · rw [run_append_nil (P := Tryz.prog) w t ty 143 i _ ht hi hz a n c (dcells k) hlen hnews (by omega) (by omega) (by rw [hby]; omega)] at hr
        cases hr
        intro g hg; simp [Value.ownBlock] at hg; exact .inr (by omega)
    · by_cases hroom : l.length + n ≤ cap
      · rw [run_append_room (P := Tryz.prog) w t ty 143 i ht hi g l.length cap cur hg a n c (dcells k) hlen hnews (dcells_one k) hroom (by rw [hlen, hsz, hcs, ← Nat.add_mul]; exact Nat.mul_le_mul_right _ hroom)] at hr
        cases hr
        exact fun g hg => .inl hg
      · have holds : ∀ j u, (dcells l)[j]? = some u → w.cell? ((⟨g, 0, none⟩ : Addr).add j) = some u := World.ownsRow.cells (v := .slice (some ⟨g, 0, none⟩) l.length cap) h rfl
        rw [run_append_grow (P := Tryz.prog) w t ty 143 i _ ht hi hz ⟨g, 0, none⟩ l.length cap (dcells l) (by rw [dcells_length, hsz]) holds a n c (dcells k) hlen hnews (by omega) (by omega) (by rw [hby]; exact growslice_fits (by omega) (by omega))] at hr
        cases hr
        intro g hg; simp [Value.ownBlock] at hg; exact .inr (by omega)
theorem Row.empty {w : World} {B g : Nat} (hB : B ≤ g) (h : w.heap[g]? = some (.cells #[] 143 (0, 0))) : Row w B (.slice (some ⟨g, 0, none⟩) 0 0) [] :=
  ⟨rfl, .inr ⟨g, 0, #[], rfl, hB, h, Nat.le_refl _, Nat.zero_le _, rfl, rfl⟩⟩
theorem Row.grown {w w1 : World} {B : Nat} {v : Value} {l : List Dot} {row : Option Nat} (h : Row w B v l) (hg : w.grownBy w1 row) (hne : v.ownBlock = none ∨ v.ownBlock ≠ row) : Row w1 B v l := World.ownsRow.kept h hg hne
/-- Dots in a row that an append elsewhere leaves. -/
theorem Dots.grown {w w1 : World} {A : Option Addr} {n c : Nat} {l : List Dot} {row : Option Nat} (h : Dots w A n c l) (hg : w.grownBy w1 row) (hne : ∀ a, A = some a → some a.block ≠ row) : Dots w1 A n c l :=
  ⟨h.len, h.cap, h.max, h.nil, fun i d hi => by
    obtain ⟨b, o, rfl, hlt, h1, h2⟩ := h.cell i d hi
    exact ⟨b, o, rfl, Nat.lt_of_lt_of_le hlt hg.size, hg.cell h1 (hne ⟨b, o, none⟩ rfl), hg.cell h2 (hne ⟨b, o, none⟩ rfl)⟩⟩
/-- A store elsewhere. -/
theorem Dots.set_ {w : World} {A : Option Addr} {n c : Nat} {l : List Dot} (h : Dots w A n c l) {p : Addr} (hne : ∀ a, A = some a → a.block ≠ p.block) (u : Value) : Dots (w.setCell p u) A n c l :=
  ⟨h.len, h.cap, h.max, h.nil, fun i d hi => by
    obtain ⟨b, o, rfl, hlt, h1, h2⟩ := h.cell i d hi
    have hb : b ≠ p.block := hne ⟨b, o, none⟩ rfl
    refine ⟨b, o, rfl, by simpa [World.setCell] using hlt, ?_, ?_⟩
    · rw [World.cell?_setCell_other w p _ u (fun e => hb (by rw [e]))]; exact h1
    · rw [World.cell?_setCell_other w p _ u (fun e => hb (by rw [e]))]; exact h2⟩
theorem Row.set_ {w : World} {B : Nat} {v : Value} {l : List Dot} (h : Row w B v l) {p : Addr} (hne : ∀ k, v.ownBlock = some k → k ≠ p.block) (u : Value) : Row (w.setCell p u) B v l := by
  refine ⟨h.1, ?_⟩
  rcases h.2 with h2 | ⟨g, cap, cur, hv, hg, hh, r⟩
  · exact .inl h2
  · exact .inr ⟨g, cap, cur, hv, hg, by rw [Below.heap_setCell w p u g (hne g (by rw [hv]; rfl))]; exact hh, r⟩
theorem own_ne {A : Option Addr} {n c N : Nat} (h : ∀ a, A = some a → a.block ≠ N) : ∀ k, (Value.slice A n c).ownBlock = some k → k ≠ N := by
  intro k hk
  cases A with
  | none => simp [Value.ownBlock] at hk
  | some a => simp [Value.ownBlock] at hk; subst hk; exact h a rfl
theorem Row.from_ {w : World} {B : Nat} {A : Option Addr} {n c : Nat} {l : List Dot} (h : Row w B (.slice A n c) l) : ∀ a, A = some a → B ≤ a.block := fun a e => (World.ownsRow.lt h a.block (by rw [e]; rfl)).1
theorem cutA_block {A : Option Addr} {c k : Nat} {p : Nat → Prop} (h : ∀ a, A = some a → p a.block) : ∀ a, cutA A c k = some a → p a.block := by
  intro a e
  unfold cutA at e
  split at e
  · exact h a e
  · cases A with
    | none => cases e
    | some a' => simp at e; subst e; rw [show (a'.add (k * 2)).block = a'.block by unfold Addr.add; split <;> rfl]; exact h a' rfl
theorem Row.own (w : World) {B : Nat} {v : Value} {l : List Dot} (h : Row w B v l) : ∀ k, v.ownBlock = some k → B ≤ k := fun k hk => (World.ownsRow.lt h k hk).1
/-- The same as an operation. -/
theorem wpList_app {ops : Array Oper} {rest : List Oper} {o : Oper} {a : Act} {Q : Exit → Act → World → Prop} {s x : Operand} {t : TypeId} {w : World} {B : Nat} {v : Value} {l k : List Dot} {A : Option Addr} {n c : Nat}
    (hgd : o.guard = none) (ho : o.op = .call { callee := .builtin .append, args := #[s, x], argTypes := #[t, t] }) (ht : Tryz.prog.underlying t = some (.slice 143)) (hsv : a.eval s = v) (hxv : a.eval x = .slice A n c)
    (h : Row w B v l) (hk : Dots w A n c k) (hs : l.length + k.length ≤ 1000000000) (hB : B ≤ w.heap.size)
    (K : ∀ v' w', Row w' B v' (l ++ k) → w.grownBy w' v.ownBlock → wpList Tryz.prog ops Q rest (a.put o.dst v') w') : wpList Tryz.prog ops Q (o :: rest) a w := by
  refine wpList_plain hgd fun K' hK => ?_
  obtain ⟨v', w', hr, h2, h3⟩ := run_app (ty := o.type) ht h hk hs hB
  unfold Oper.wp
  simp [execOp, ho, resolve, invoke, builtin, hsv, hxv, hr, Result.andThen]
  exact hK _ _ (K v' w' h2 h3)

theorem wpList_appO {ops : Array Oper} {rest : List Oper} {o : Oper} {a : Act} {Q : Exit → Act → World → Prop} {s x : Operand} {t : TypeId} {w : World} {B : Nat} {v : Value} {l k : List Dot} {A : Option Addr} {n c : Nat}
    (hgd : o.guard = none) (ho : o.op = .call { callee := .builtin .append, args := #[s, x], argTypes := #[t, t] }) (ht : Tryz.prog.underlying t = some (.slice 143)) (hsv : a.eval s = v) (hxv : a.eval x = .slice A n c)
    (h : Row w B v l) (hk : Dots w A n c k) (hs : l.length + k.length ≤ 1000000000) (hB : B ≤ w.heap.size)
    (K : ∀ v' w', Row w' B v' (l ++ k) → w.grownBy w' v.ownBlock → (∀ g, v'.ownBlock = some g → v.ownBlock = some g ∨ w.heap.size ≤ g) → wpList Tryz.prog ops Q rest (a.put o.dst v') w') : wpList Tryz.prog ops Q (o :: rest) a w := by
  refine wpList_plain hgd fun K' hK => ?_
  obtain ⟨v', w', hr, h2, h3⟩ := run_app (ty := o.type) ht h hk hs hB
  have h4 := run_app_block ht h hk hs hr
  unfold Oper.wp
  simp [execOp, ho, resolve, invoke, builtin, hsv, hxv, hr, Result.andThen]
  exact hK _ _ (K v' w' h2 h3 h4)

theorem wp_app {o : Oper} {a : Act} {Q : Exit → Act → World → Prop} {s x : Operand} {t : TypeId} {w : World} {B : Nat} {v : Value} {l k : List Dot} {A : Option Addr} {n c : Nat} {K : Act → World → Prop}
    (ho : o.op = .call { callee := .builtin .append, args := #[s, x], argTypes := #[t, t] }) (ht : Tryz.prog.underlying t = some (.slice 143)) (hsv : a.eval s = v) (hxv : a.eval x = .slice A n c)
    (h : Row w B v l) (hk : Dots w A n c k) (hs : l.length + k.length ≤ 1000000000) (hB : B ≤ w.heap.size)
    (hK : ∀ v' w', Row w' B v' (l ++ k) → w.grownBy w' v.ownBlock → K (a.put o.dst v') w') : o.wp Tryz.prog a w K Q := by
  obtain ⟨v', w', hr, h2, h3⟩ := run_app (ty := o.type) ht h hk hs hB
  unfold Oper.wp
  simp [execOp, ho, resolve, invoke, builtin, hsv, hxv, hr, Result.andThen]
  exact hK v' w' h2 h3
section
variable {P : Program} {ops : List Oper} {Fs : List VT} {w0 : World} {a0 : Act} {i : Nat} {d : Option Tmp} {ty : TypeId} {pos : String} {after : Array Edge} {g : Option (Nat × Bool)}
/-- In a region: an append onto nil: a new row. -/
theorem Ob.appNil {x : Operand} {t : TypeId} {l : List Dot} (hw : Wanted ops Fs w0 a0 i ⟨d, .call ⟨.builtin .append, #[.const (.slice none 0 0), x], #[t, t]⟩, ty, pos, after, g⟩) (ht : Tryz.prog.underlying t = some (.slice 143))
    (hx : Has ops Fs w0 a0 i ⟨d, .call ⟨.builtin .append, #[.const (.slice none 0 0), x], #[t, t]⟩, ty, pos, after, g⟩ x (IsDots l)) (hs : l.length ≤ 1000000000) :
    Ob Tryz.prog ops Fs w0 a0 i ⟨d, .call ⟨.builtin .append, #[.const (.slice none 0 0), x], #[t, t]⟩, ty, pos, after, g⟩ (IsRow w0.heap.size l) :=
  Ob.any hw fun a w cx => by
    obtain ⟨A, n, c, e, hd⟩ := hx a w cx
    obtain ⟨v', w', hr, h2, h3⟩ := run_app (ty := ty) ht (Row.nil_ w w.heap.size) hd (by simpa using hs) (Nat.le_refl _)
    refine ⟨v', w', ?_, (Below.refl _ w).grown h3 (Nat.le_refl _) (fun k hk => by simp [Value.ownBlock] at hk), Row.low h2 cx.le.size⟩
    have hc : a.eval (.const (.slice none 0 0)) = .slice none 0 0 := rfl
    generalize a.eval = ρ at e hc
    simp [execOp, resolve, invoke, builtin, e, hc, hr]
theorem Ob.appNilV {x : Operand} {t : TypeId} {l : List Dot} {A : Option Addr} {n c : Nat} (hw : Wanted ops Fs w0 a0 i ⟨d, .call ⟨.builtin .append, #[.const (.slice none 0 0), x], #[t, t]⟩, ty, pos, after, g⟩) (ht : Tryz.prog.underlying t = some (.slice 143))
    (hx : Has ops Fs w0 a0 i ⟨d, .call ⟨.builtin .append, #[.const (.slice none 0 0), x], #[t, t]⟩, ty, pos, after, g⟩ x (Is (.slice A n c))) (hd : ∀ w, Below w0.heap.size w0 w → Dots w A n c l) (hs : l.length ≤ 1000000000) :
    Ob Tryz.prog ops Fs w0 a0 i ⟨d, .call ⟨.builtin .append, #[.const (.slice none 0 0), x], #[t, t]⟩, ty, pos, after, g⟩ (IsRow w0.heap.size l) :=
  Ob.any hw fun a w cx => by
    have e : a.eval x = .slice A n c := hx a w cx
    have hd := hd w cx.le
    obtain ⟨v', w', hr, h2, h3⟩ := run_app (ty := ty) ht (Row.nil_ w w.heap.size) hd (by simpa using hs) (Nat.le_refl _)
    refine ⟨v', w', ?_, (Below.refl _ w).grown h3 (Nat.le_refl _) (fun k hk => by simp [Value.ownBlock] at hk), Row.low h2 cx.le.size⟩
    have hc : a.eval (.const (.slice none 0 0)) = .slice none 0 0 := rfl
    generalize a.eval = ρ at e hc
    simp [execOp, resolve, invoke, builtin, e, hc, hr]
theorem Ob.sliceTo_dots {x y : Operand} {A : Option Addr} {n c k : Nat} (hw : Wanted ops Fs w0 a0 i ⟨d, .slice 126 x none (some y) none, ty, pos, after, g⟩) (hx : Has ops Fs w0 a0 i ⟨d, .slice 126 x none (some y) none, ty, pos, after, g⟩ x (Is (.slice A n c))) (hy : Has ops Fs w0 a0 i ⟨d, .slice 126 x none (some y) none, ty, pos, after, g⟩ y (IsI (k : Int))) (h : k ≤ c) :
    Ob Tryz.prog ops Fs w0 a0 i ⟨d, .slice 126 x none (some y) none, ty, pos, after, g⟩ (Is (.slice A k c)) :=
  Ob.stay hw fun a w cx => ⟨_, by
    have h1 : a.eval x = .slice A n c := hx a w cx
    have h2 : a.eval y = .int .i64 (k : Int) := hy a w cx
    have h3 := slice_to_dots (w := w) (A := A) (n := n) h
    generalize a.eval = ρ at h1 h2
    simp only [execOp, Option.map, h1, h2]
    simp [h3], rfl⟩
theorem Ob.sliceFrom_dots {x y : Operand} {A : Option Addr} {n c k : Nat} (hw : Wanted ops Fs w0 a0 i ⟨d, .slice 126 x (some y) none none, ty, pos, after, g⟩) (hx : Has ops Fs w0 a0 i ⟨d, .slice 126 x (some y) none none, ty, pos, after, g⟩ x (Is (.slice A n c))) (hy : Has ops Fs w0 a0 i ⟨d, .slice 126 x (some y) none none, ty, pos, after, g⟩ y (IsI (k : Int))) (h : k ≤ n) (hc : n ≤ c) :
    Ob Tryz.prog ops Fs w0 a0 i ⟨d, .slice 126 x (some y) none none, ty, pos, after, g⟩ (Is (.slice (cutA A c k) (n - k) (c - k))) :=
  Ob.stay hw fun a w cx => ⟨_, by
    have h1 : a.eval x = .slice A n c := hx a w cx
    have h2 : a.eval y = .int .i64 (k : Int) := hy a w cx
    have h3 := slice_from_dots (w := w) (A := A) h hc
    generalize a.eval = ρ at h1 h2
    simp only [execOp, Option.map, h1, h2]
    simp [h3], rfl⟩
theorem Ob.sliceTo_vec {x y : Operand} {A : Option Addr} {n c k : Nat} (hw : Wanted ops Fs w0 a0 i ⟨d, .slice 127 x none (some y) none, ty, pos, after, g⟩) (hx : Has ops Fs w0 a0 i ⟨d, .slice 127 x none (some y) none, ty, pos, after, g⟩ x (Is (.slice A n c))) (hy : Has ops Fs w0 a0 i ⟨d, .slice 127 x none (some y) none, ty, pos, after, g⟩ y (IsI (k : Int))) (h : k ≤ c) :
    Ob Tryz.prog ops Fs w0 a0 i ⟨d, .slice 127 x none (some y) none, ty, pos, after, g⟩ (Is (.slice A k c)) :=
  Ob.stay hw fun a w cx => ⟨_, by
    have h1 : a.eval x = .slice A n c := hx a w cx
    have h2 : a.eval y = .int .i64 (k : Int) := hy a w cx
    have h3 := slice_to_vec (w := w) (A := A) (n := n) h
    generalize a.eval = ρ at h1 h2
    simp only [execOp, Option.map, h1, h2]
    simp [h3], rfl⟩
theorem Ob.sliceFrom_vec {x y : Operand} {A : Option Addr} {n c k : Nat} (hw : Wanted ops Fs w0 a0 i ⟨d, .slice 127 x (some y) none none, ty, pos, after, g⟩) (hx : Has ops Fs w0 a0 i ⟨d, .slice 127 x (some y) none none, ty, pos, after, g⟩ x (Is (.slice A n c))) (hy : Has ops Fs w0 a0 i ⟨d, .slice 127 x (some y) none none, ty, pos, after, g⟩ y (IsI (k : Int))) (h : k ≤ n) (hc : n ≤ c) :
    Ob Tryz.prog ops Fs w0 a0 i ⟨d, .slice 127 x (some y) none none, ty, pos, after, g⟩ (Is (.slice (cutA A c k) (n - k) (c - k))) :=
  Ob.stay hw fun a w cx => ⟨_, by
    have h1 : a.eval x = .slice A n c := hx a w cx
    have h2 : a.eval y = .int .i64 (k : Int) := hy a w cx
    have h3 := slice_from_vec (w := w) (A := A) h hc
    generalize a.eval = ρ at h1 h2
    simp only [execOp, Option.map, h1, h2]
    simp [h3], rfl⟩
theorem Ob.mkCon {x y : Operand} {A B : Option Addr} {n ca m cb : Nat} (hw : Wanted ops Fs w0 a0 i ⟨d, .build 129 #[(0, x), (1, y)], ty, pos, after, g⟩) (hx : Has ops Fs w0 a0 i ⟨d, .build 129 #[(0, x), (1, y)], ty, pos, after, g⟩ x (Is (.slice A n ca))) (hy : Has ops Fs w0 a0 i ⟨d, .build 129 #[(0, x), (1, y)], ty, pos, after, g⟩ y (Is (.slice B m cb))) :
    Ob Tryz.prog ops Fs w0 a0 i ⟨d, .build 129 #[(0, x), (1, y)], ty, pos, after, g⟩ (Is (.agg #[.slice A n ca, .slice B m cb])) :=
  Ob.stay hw fun a w cx => ⟨_, by
    have h1 : a.eval x = .slice A n ca := hx a w cx
    have h2 : a.eval y = .slice B m cb := hy a w cx
    generalize a.eval = ρ at h1 h2
    simp [execOp, h1, h2, go_sem], rfl⟩
theorem Ob.mkDot {x y : Operand} {m n : Int} (hw : Wanted ops Fs w0 a0 i ⟨d, .build 143 #[(0, x), (1, y)], ty, pos, after, g⟩) (hx : Has ops Fs w0 a0 i ⟨d, .build 143 #[(0, x), (1, y)], ty, pos, after, g⟩ x (IsI m)) (hy : Has ops Fs w0 a0 i ⟨d, .build 143 #[(0, x), (1, y)], ty, pos, after, g⟩ y (IsI n)) :
    Ob Tryz.prog ops Fs w0 a0 i ⟨d, .build 143 #[(0, x), (1, y)], ty, pos, after, g⟩ (Is (.agg #[.int .i64 m, .int .i64 n])) :=
  Ob.stay hw fun a w cx => ⟨.agg #[.int .i64 m, .int .i64 n], by
    have h1 : a.eval x = .int .i64 m := hx a w cx
    have h2 : a.eval y = .int .i64 n := hy a w cx
    generalize a.eval = ρ at h1 h2
    simp [execOp, h1, h2, go_sem], rfl⟩
theorem Ob.mkDots1126 {x : Operand} {m n : Int} (hw : Wanted ops Fs w0 a0 i ⟨d, .buildSlice 126 1 #[(0, x)], ty, pos, after, g⟩) (hx : Has ops Fs w0 a0 i ⟨d, .buildSlice 126 1 #[(0, x)], ty, pos, after, g⟩ x (Is (.agg #[.int .i64 m, .int .i64 n]))) :
    Ob Tryz.prog ops Fs w0 a0 i ⟨d, .buildSlice 126 1 #[(0, x)], ty, pos, after, g⟩ (IsDots [(m, n)]) :=
  Ob.any hw fun a w cx => by
    have h1 : a.eval x = .agg #[.int .i64 m, .int .i64 n] := hx a w cx
    refine ⟨.slice (some ⟨w.heap.size, 0, none⟩) 1 1, w.alloc (.cells #[.int .i64 m, .int .i64 n] 143), ?_, by go_grown, some ⟨w.heap.size, 0, none⟩, 1, 1, rfl, rfl, Nat.le_refl _, by unfold maxLen; omega, (fun e => nomatch e), fun j e hj => ?_⟩
    · generalize a.eval = ρ at h1
      simp [execOp, h1, go_sem]
    · have : j = 0 := by have := (List.getElem?_eq_some_iff.1 hj).1; simpa using this
      subst this
      simp at hj; subst hj
      exact ⟨w.heap.size, 0, rfl, by simp, by simp [go_sem], by simp [go_sem]⟩
theorem Ob.mkDots1127 {x : Operand} {m n : Int} (hw : Wanted ops Fs w0 a0 i ⟨d, .buildSlice 127 1 #[(0, x)], ty, pos, after, g⟩) (hx : Has ops Fs w0 a0 i ⟨d, .buildSlice 127 1 #[(0, x)], ty, pos, after, g⟩ x (Is (.agg #[.int .i64 m, .int .i64 n]))) :
    Ob Tryz.prog ops Fs w0 a0 i ⟨d, .buildSlice 127 1 #[(0, x)], ty, pos, after, g⟩ (IsDots [(m, n)]) :=
  Ob.any hw fun a w cx => by
    have h1 : a.eval x = .agg #[.int .i64 m, .int .i64 n] := hx a w cx
    refine ⟨.slice (some ⟨w.heap.size, 0, none⟩) 1 1, w.alloc (.cells #[.int .i64 m, .int .i64 n] 143), ?_, by go_grown, some ⟨w.heap.size, 0, none⟩, 1, 1, rfl, rfl, Nat.le_refl _, by unfold maxLen; omega, (fun e => nomatch e), fun j e hj => ?_⟩
    · generalize a.eval = ρ at h1
      simp [execOp, h1, go_sem]
    · have : j = 0 := by have := (List.getElem?_eq_some_iff.1 hj).1; simpa using this
      subst this
      simp at hj; subst hj
      exact ⟨w.heap.size, 0, rfl, by simp, by simp [go_sem], by simp [go_sem]⟩
end
end Go.Proofs.YtjddelmhbafelaaGreatDoor

/-
  Slices whose elements are records without pointers: what their cells read as; rows of the call's own, and what an append makes of them. (For any element: a bundle says how its cells look.)
-/
namespace Go.Proofs.YtjddelmhbafelaaGreatDoor
open Go.RowKit

/-- How an element's cells look. -/
structure Enc (α : Type) where
  z : Nat
  enc : α → List Value
  len : ∀ x, (enc x).length = z
  one : ∀ x, ∀ u ∈ enc x, u.oneCell' = true
def Enc.all {α : Type} (e : Enc α) (l : List α) : List Value := l.flatMap e.enc
section
variable {α : Type} {e : Enc α}
theorem Enc.all_cons (x : α) (l : List α) : e.all (x :: l) = e.enc x ++ e.all l := rfl
theorem Enc.all_append (a b : List α) : e.all (a ++ b) = e.all a ++ e.all b := by unfold Enc.all; rw [List.flatMap_append]
theorem Enc.all_length : ∀ l : List α, (e.all l).length = l.length * e.z
  | [] => by simp [Enc.all]
  | x :: l => by rw [Enc.all_cons, List.length_append, e.len, Enc.all_length l, List.length_cons, Nat.add_mul]; omega
theorem Enc.all_get : ∀ (l : List α) (i : Nat) (x : α), l[i]? = some x → ∀ j u, (e.enc x)[j]? = some u → (e.all l)[i * e.z + j]? = some u
  | [], i, x, h, _, _, _ => by simp at h
  | a :: l, 0, x, h, j, u, hj => by
    simp at h; subst h
    rw [Enc.all_cons, List.getElem?_append_left (by have := (List.getElem?_eq_some_iff.1 hj).1; omega)]
    simpa using hj
  | a :: l, i + 1, x, h, j, u, hj => by
    have := Enc.all_get l i x (by simpa using h) j u hj
    rw [Enc.all_cons, List.getElem?_append_right (by rw [e.len, Nat.add_mul]; omega)]
    have e2 : (i + 1) * e.z + j - (e.enc a).length = i * e.z + j := by rw [e.len, Nat.add_mul]; omega
    rw [e2]; exact this
theorem Enc.all_at (l : List α) (j : Nat) (u : Value) (h : (e.all l)[j]? = some u) : ∃ i x, l[i]? = some x ∧ ∃ r, (e.enc x)[r]? = some u ∧ j = i * e.z + r := by
  induction l generalizing j with
  | nil => simp [Enc.all] at h
  | cons a l ih =>
    rw [Enc.all_cons] at h
    rcases Nat.lt_or_ge j e.z with hj | hj
    · rw [List.getElem?_append_left (by rw [e.len]; exact hj)] at h
      exact ⟨0, a, rfl, j, h, by omega⟩
    · rw [List.getElem?_append_right (by rw [e.len]; exact hj), e.len] at h
      obtain ⟨i, x, h1, r, h2, h3⟩ := ih _ h
      exact ⟨i + 1, x, by simpa using h1, r, h2, by rw [Nat.add_mul]; omega⟩
theorem Enc.all_one (l : List α) : ∀ u ∈ e.all l, u.oneCell' = true := by
  intro u hu
  obtain ⟨j, hj⟩ := List.getElem?_of_mem hu
  obtain ⟨_, x, _, r, h, _⟩ := Enc.all_at l j u hj
  exact e.one x u (List.mem_of_getElem? h)
/-- A slice whose cells read as a list. -/
structure Sl (e : Enc α) (w : World) (A : Option Addr) (n c : Nat) (l : List α) : Prop where
  len : n = l.length
  cap : n ≤ c
  max : c ≤ maxLen
  nil : A = none → c = 0
  cell : ∀ i x, l[i]? = some x → ∃ b o, A = some ⟨b, o, none⟩ ∧ b < w.heap.size ∧ ∀ j u, (e.enc x)[j]? = some u → w.cell? ⟨b, o + i * e.z + j, none⟩ = some u
def IsSl (e : Enc α) (l : List α) (w : World) (v : Value) : Prop := ∃ A n c, v = .slice A n c ∧ Sl e w A n c l
/-- A row of the call's own, from block B on. -/
def OwnSl (e : Enc α) (ty : TypeId) (w : World) (B : Nat) (v : Value) (l : List α) : Prop := w.ownsRow B ty e.z v l.length (e.all l)
def IsOwn (e : Enc α) (ty : TypeId) (B : Nat) (l : List α) (w : World) (v : Value) : Prop := OwnSl e ty w B v l
variable {w w' : World} {A : Option Addr} {n c B : Nat} {l k : List α} {ty : TypeId} {v : Value}
theorem Sl.mono (h : Sl e w A n c l) (hb : Below w.heap.size w w') : Sl e w' A n c l :=
  ⟨h.len, h.cap, h.max, h.nil, fun i x hi => by
    obtain ⟨b, o, rfl, hlt, h1⟩ := h.cell i x hi
    exact ⟨b, o, rfl, Nat.lt_of_lt_of_le hlt hb.size, fun j u hj => (hb.cell (p := ⟨b, _, none⟩) hlt).trans (h1 j u hj)⟩⟩
theorem Sl.big (h : Sl e w A n c l) : n ≤ 9223372036854775807 := by have := h.cap; have := h.max; unfold maxLen at this; omega
theorem Sl.nil_ (e : Enc α) (w : World) : Sl e w none 0 0 [] := ⟨rfl, Nat.le_refl _, by unfold maxLen; omega, fun _ => rfl, fun i x h => by simp at h⟩
theorem Sl.at_ (h : Sl e w A n c l) {i : Nat} (hi : i < n) : ∃ b o x, A = some ⟨b, o, none⟩ ∧ b < w.heap.size ∧ l[i]? = some x ∧ l.drop i = x :: l.drop (i + 1) ∧ ∀ j u, (e.enc x)[j]? = some u → w.cell? ⟨b, o + i * e.z + j, none⟩ = some u := by
  have hl : i < l.length := by have := h.len; omega
  obtain ⟨b, o, e1, hb, h1⟩ := h.cell i l[i] (List.getElem?_eq_getElem hl)
  exact ⟨b, o, l[i], e1, hb, List.getElem?_eq_getElem hl, by rw [List.drop_eq_getElem_cons hl], h1⟩
theorem Sl.cells (h : Sl e w A n c l) {a : Addr} (hA : A = some a) (j : Nat) (u : Value) (hu : (e.all l)[j]? = some u) : w.cell? (a.add j) = some u := by
  obtain ⟨i, x, hi, r, hr, rfl⟩ := Enc.all_at l j u hu
  obtain ⟨b, o, e1, _, h1⟩ := h.cell i x hi
  rw [hA] at e1; cases e1
  rw [add_lit, ← Nat.add_assoc]
  exact h1 r u hr
theorem million_le : 1000000 ≤ maxLen := by unfold maxLen; decide
/-- A slice of new cells. -/
theorem Sl.new (e : Enc α) (w : World) (l : List α) (hl : l.length ≤ 1000000) (cs : Array Value) (hcs : cs.toList = e.all l) (ty : TypeId) : Sl e (w.alloc (.cells cs ty)) (some ⟨w.heap.size, 0, none⟩) l.length l.length l := by
  have hlt : w.heap.size < (w.alloc (.cells cs ty)).heap.size := (Array.getElem?_eq_some_iff.1 (heap_alloc_new w _)).1
  refine ⟨rfl, Nat.le_refl _, Nat.le_trans hl million_le, (fun e => nomatch e), fun i x hi => ⟨w.heap.size, 0, rfl, hlt, fun j u hj => ?_⟩⟩
  have h1 := Enc.all_get l i x hi j u hj
  rw [← hcs] at h1
  rw [Nat.zero_add, cell_of_row _ _ _ cs ty (0, 0) (heap_alloc_new w _), ← Array.getElem?_toList]
  exact h1
theorem OwnSl.mono (h : OwnSl e ty w B v l) (hb : Below w.heap.size w w') : OwnSl e ty w' B v l := by
  refine ⟨h.1, ?_⟩
  rcases h.2 with h2 | ⟨g, cap, cur, hv, hg, hh, r⟩
  · exact .inl h2
  · exact .inr ⟨g, cap, cur, hv, hg, (hb.block g (Array.getElem?_eq_some_iff.1 hh).1).trans hh, r⟩
theorem OwnSl.low (h : OwnSl e ty w B v l) {B' : Nat} (hB : B' ≤ B) : OwnSl e ty w B' v l := by
  refine ⟨h.1, ?_⟩
  rcases h.2 with h2 | ⟨g, cap, cur, hv, hg, r⟩
  · exact .inl h2
  · exact .inr ⟨g, cap, cur, hv, by omega, r⟩
theorem OwnSl.own (h : OwnSl e ty w B v l) : ∀ q, v.ownBlock = some q → B ≤ q ∧ q < w.heap.size := World.ownsRow.lt h
theorem OwnSl.grown {w1 : World} {row : Option Nat} (h : OwnSl e ty w B v l) (hg : w.grownBy w1 row) (hne : v.ownBlock = none ∨ v.ownBlock ≠ row) : OwnSl e ty w1 B v l := World.ownsRow.kept h hg hne
theorem OwnSl.nil_ (e : Enc α) (ty : TypeId) (w : World) (B : Nat) : OwnSl e ty w B (.slice none 0 0) [] := World.ownsRow_nil w B _ _
theorem OwnSl.sl (h : OwnSl e ty w B v l) : ∃ A c, v = .slice A l.length c ∧ Sl e w A l.length c l := by
  rcases h.2 with ⟨rfl, h0⟩ | ⟨g, cap, cur, rfl, hg, hh, hn, hm, hs, ht⟩
  · have : l = [] := List.eq_nil_of_length_eq_zero h0
    subst this
    exact ⟨none, 0, rfl, Sl.nil_ e w⟩
  · refine ⟨some ⟨g, 0, none⟩, cap, rfl, rfl, hn, hm, (fun e => nomatch e), fun i x hi => ⟨g, 0, rfl, (Array.getElem?_eq_some_iff.1 hh).1, fun j u hj => ?_⟩⟩
    have := World.ownsRow.cells (v := .slice (some ⟨g, 0, none⟩) l.length cap) h rfl _ u (Enc.all_get l i x hi j u hj)
    rw [add_lit, ← Nat.add_assoc] at this
    exact this
theorem IsOwn.sl (h : IsOwn e ty B l w v) : IsSl e l w v := let ⟨A, c, e1, h'⟩ := OwnSl.sl h; ⟨A, _, c, e1, h'⟩
/-- The closed facts on an element type. -/
structure Inf (P : Program) (ty : TypeId) (e : Enc α) (bytes : Nat) : Prop where
  ex : ∃ (i : TypeInfo) (z : Value), P.info? ty = some i ∧ i.zero = some z ∧ i.size = e.z ∧ i.bytes = bytes ∧ z.cells.size = e.z
  pos : 0 < e.z
  by_ : bytes ≤ 1000
/-- An append onto a row of the call's own. -/
theorem run_appS {P : Program} {bytes : Nat} {t rt : TypeId} (inf : Inf P ty e bytes) (ht : P.underlying t = some (.slice ty)) (h : OwnSl e ty w B v l) (hk : Sl e w A n c k) (hs : l.length + k.length ≤ 1000000000) (hB : B ≤ w.heap.size) :
    ∃ v' w', (Builtin.append_ #[t, t] rt #[v, .slice A n c]).run P w = .ok v' w' ∧ OwnSl e ty w' B v' (l ++ k) ∧ w.grownBy w' v.ownBlock ∧ (v'.ownBlock = v.ownBlock ∨ v'.ownBlock = some w.heap.size) := by
  obtain ⟨i, z, hi, hz, hsz, hby, hzs⟩ := inf.ex
  have hpos := inf.pos
  have hbb := inf.by_
  cases A with
  | none =>
    have hc := hk.nil rfl
    have hn : n = 0 := by have := hk.cap; omega
    subst hc; subst hn
    have hk0 : k = [] := List.eq_nil_of_length_eq_zero hk.len.symm
    subst hk0
    refine ⟨v, w, run_append_owned_none (P := P) (w := w) B t rt ty i e.z ht hi v l.length (e.all l) h, by rw [List.append_nil]; exact h, ⟨rfl, rfl, rfl, Nat.le_refl _, fun _ _ _ => rfl⟩, .inl rfl⟩
  | some a =>
    have hkl := hk.len
    obtain ⟨v', w', h1, h2, h3, _, h5⟩ := run_append_own_at (P := P) w B t rt ty i z e.z bytes ht hi hz hsz hby hzs hpos v l.length (e.all l) h a n c (e.all k) (by rw [Enc.all_length, hk.len]) (fun j u hu => hk.cells rfl j u hu) (Enc.all_one k)
      (by rw [hkl]; unfold maxLen; omega) (by rw [hkl]; exact Nat.le_trans (Nat.mul_le_mul hs hbb) (by decide)) hB
    refine ⟨v', w', h1, ?_, h3, h5⟩
    unfold OwnSl
    rw [List.length_append, Enc.all_append]
    rw [hkl] at h2
    exact h2
theorem wpList_appS {P : Program} {bytes : Nat} {t : TypeId} {ops : Array Oper} {rest : List Oper} {o : Oper} {a : Act} {Q : Exit → Act → World → Prop} {s x : Operand} (inf : Inf P ty e bytes)
    (hgd : o.guard = none) (ho : o.op = .call { callee := .builtin .append, args := #[s, x], argTypes := #[t, t] }) (ht : P.underlying t = some (.slice ty)) (hsv : a.eval s = v) (hxv : a.eval x = .slice A n c)
    (h : OwnSl e ty w B v l) (hk : Sl e w A n c k) (hs : l.length + k.length ≤ 1000000000) (hB : B ≤ w.heap.size)
    (K : ∀ v' w', OwnSl e ty w' B v' (l ++ k) → w.grownBy w' v.ownBlock → (v'.ownBlock = v.ownBlock ∨ v'.ownBlock = some w.heap.size) → wpList P ops Q rest (a.put o.dst v') w') : wpList P ops Q (o :: rest) a w := by
  refine wpList_plain hgd fun K' hK => ?_
  obtain ⟨v', w', hr, h2, h3, h4⟩ := run_appS (rt := o.type) inf ht h hk hs hB
  unfold Oper.wp
  simp [execOp, ho, resolve, invoke, builtin, hsv, hxv, hr, Result.andThen]
  exact hK _ _ (K v' w' h2 h3 h4)
end
instance {α : Type} (e : Enc α) (l : List α) : Grows (IsSl e l) := ⟨fun hb ⟨A, n, c, e1, h⟩ => ⟨A, n, c, e1, h.mono hb⟩⟩
instance {α : Type} (e : Enc α) (ty : TypeId) (B : Nat) (l : List α) : Grows (IsOwn e ty B l) := ⟨fun hb h => OwnSl.mono h hb⟩

/-! ### Bytes -/
def encB : Enc UInt8 := ⟨1, fun x => [.int .u8 x.toNat], fun _ => rfl, fun x u hu => by rw [List.mem_singleton.1 hu]; rfl⟩
abbrev Bytes (w : World) (A : Option Addr) (n c : Nat) (l : List UInt8) : Prop := Sl encB w A n c l
abbrev IsBytes (l : List UInt8) := IsSl encB l
abbrev strV (l : List UInt8) : Value := .string ⟨⟨l⟩⟩
end Go.Proofs.YtjddelmhbafelaaGreatDoor

/-
  Lists of ints; are two of them the same.
-/
namespace Go.Proofs.YtjddelmhbafelaaGreatDoor
open Go.RowKit
theorem retB {b c : Bool} {w w' : World} (h : b = c) (hb : Below w.heap.size w w') : Ret w (IsB c) (.returned (.bool b)) w' := ⟨_, rfl, hb, by rw [h]; rfl⟩
def encI : Enc Int := ⟨1, fun x => [.int .i64 x], fun _ => rfl, fun x u hu => by rw [List.mem_singleton.1 hu]; rfl⟩
theorem Sl.int {w : World} {A : Option Addr} {n c : Nat} {l : List Int} (h : Sl encI w A n c l) {i : Nat} (hi : i < n) : ∃ b o x, A = some ⟨b, o, none⟩ ∧ b < w.heap.size ∧ l[i]? = some x ∧ l.drop i = x :: l.drop (i + 1) ∧ w.cell? ⟨b, o + i, none⟩ = some (.int .i64 x) := by
  obtain ⟨b, o, x, h1, h2, h3, h4, h5⟩ := h.at_ hi
  refine ⟨b, o, x, h1, h2, h3, h4, ?_⟩
  have := h5 0 _ rfl
  simpa [encI] using this
def ListRel {α : Type} [DecidableEq α] (w : World) (n : Nat) (la lb : List α) (i : Value) (wr : World) : Prop :=
  ∃ k : Nat, i = .int .i64 k ∧ k ≤ n ∧ Below w.heap.size w wr ∧ decide (la = lb) = decide (la.drop k = lb.drop k)
section
variable {α : Type} [DecidableEq α]
theorem ListRel.next {w w1 : World} {n k : Nat} {la lb : List α} {a b : α} (hb1 : Below w.heap.size w w1) (hk : k < n) (h1 : la.drop k = a :: la.drop (k + 1)) (h2 : lb.drop k = b :: lb.drop (k + 1))
    (hs : decide (la = lb) = decide (la.drop k = lb.drop k)) (hl : a = b) : ListRel w n la lb (.int .i64 ((k : Int) + 1)) w1 :=
  ⟨k + 1, by simp, hk, hb1, by rw [hs, h1, h2, hl]; simp⟩
theorem list_no {k : Nat} {la lb : List α} {a b : α} (h1 : la.drop k = a :: la.drop (k + 1)) (h2 : lb.drop k = b :: lb.drop (k + 1))
    (hs : decide (la = lb) = decide (la.drop k = lb.drop k)) (hl : a ≠ b) : decide (la = lb) = false := by
  rw [hs, h1, h2]; simp [hl]
theorem list_yes {n k : Nat} {la lb : List α} (hs : decide (la = lb) = decide (la.drop k = lb.drop k)) (h1 : n = la.length) (h2 : n = lb.length) (hk : ¬ k < n) : decide (la = lb) = true := by
  rw [hs, List.drop_of_length_le (by omega), List.drop_of_length_le (by omega)]; simp
theorem list_len {n m : Nat} {la lb : List α} (h1 : n = la.length) (h2 : m = lb.length) (h : n ≠ m) : decide (la = lb) = false := by
  rw [decide_eq_false_iff_not]; rintro rfl; exact h (h1.trans h2.symm)
end

set_option maxRecDepth 100000 in
set_option maxHeartbeats 2000000 in
theorem rInts (A B : Option Addr) (n m ca cb : Nat) (la lb : List Int) (w : World) (ha : Sl encI w A n ca la) (hb : Sl encI w B m cb lb) :
    Calls Tryz.prog 15 #[.slice A n ca, .slice B m cb] w (Ret w (IsB (decide (la = lb)))) := by
  by_cases hnm : n = m
  · subst hnm
    have hn := ha.big
    have hne : ((n : Int) != (n : Int)) = false := by simp
    go_enter Tryz.func15, Tryz.ntmps15
    go_wp2
    go_loopw [5] (fun i wr => ListRel w n la lb i wr) (fun i _ => n - (intOf i).toNat)
    case atStart => exact ⟨0, rfl, by omega, Below.refl _ _, rfl⟩
    case round =>
      obtain ⟨k, rfl, hk, hbw, hs⟩ := hrel
      by_cases hlt : k < n
      · obtain ⟨b, o, x, rfl, -, -, d1, c1⟩ := (ha.mono hbw).int (i := k) hlt
        obtain ⟨b', o', u, rfl, -, -, d2, c2⟩ := (hb.mono hbw).int (i := k) hlt
        have D1 := Lib.hid d1; have D2 := Lib.hid d2; have HS := Lib.hid hs
        clear d1 d2 hs
        by_cases hl : x = u
        · have HL := Lib.hid hl
          have hl' : (x != u) = false := by simp [hl]
          clear hl
          go_wp2
          go_quiet (fail)
          go_wp2
          go_roundw
          case rel => exact ListRel.next (hbw.drewN' _) hlt D1.out D2.out HS.out HL.out
          case measure => simp [intOf]; omega
        · have HL := Lib.hid hl
          have hl' : (x != u) = true := by simp [hl]
          clear hl
          go_wp2
          go_quiet (fail)
          go_wp2
          go_ret
          exact retB (list_no D1.out D2.out HS.out HL.out).symm (hbw.drewN' _)
      · have HS := Lib.hid (list_yes hs ha.len hb.len hlt); clear hs
        go_wp2
        go_ret
        exact retB HS.out.symm hbw
  · have hne : ((n : Int) != (m : Int)) = true := by simp; omega
    have HL := Lib.hid (list_len ha.len hb.len hnm)
    clear ha hb
    go_enter Tryz.func15, Tryz.ntmps15
    go_wp2
    go_ret
    exact retB HL.out.symm (Below.refl _ _)
end Go.Proofs.YtjddelmhbafelaaGreatDoor

/-
  Slices that are made at once and filled by stores: an element's cells, whatever they are.
-/
namespace Go.Proofs.YtjddelmhbafelaaGreatDoor
open Go.RowKit

theorem rangeKeep {w w' : World} {b o : Nat} {cs : List Value} (h : w.rangeAt b o cs) (hb : Below w.heap.size w w') : w'.rangeAt b o cs := fun j v hj => cellKeep hb (h j v hj)
theorem thereKeep {w w' : World} {b o n : Nat} (h : w.there b o n) (hb : Below w.heap.size w w') : w'.there b o n := fun j hj => by
  obtain ⟨h1, h2⟩ := h j hj
  obtain ⟨v, hv⟩ := Option.isSome_iff_exists.1 h1
  exact ⟨by rw [cellKeep hb hv]; rfl, by rw [hb.frozen (p := ⟨b, o + j, none⟩) (World.block_lt_of_cell? w _ hv)]; exact h2⟩
theorem belowCells {W : World} {g : Nat} (hg : W.heap.size ≤ g) : ∀ (vs : List Value) (o : Nat) (w : World), Below W.heap.size W w → Below W.heap.size W (w.setCells g o vs)
  | [], _, _, h => h
  | v :: r, o, w, h => by
    rw [World.setCells]
    exact belowCells hg r (o + 1) _ (h.setCell (p := ⟨g, o, none⟩) hg v)
/-- n elements of z cells in a block that may be written: what they are. -/
structure Arr (w : World) (g n z : Nat) (f : Nat → List Value) : Prop where
  there : w.there g 0 (n * z)
  len : ∀ i, i < n → (f i).length = z
  at_ : ∀ i, i < n → w.rangeAt g (i * z) (f i)
section
variable {w w' : World} {g n z : Nat} {f : Nat → List Value}
theorem Arr.mono (h : Arr w g n z f) (hb : Below w.heap.size w w') : Arr w' g n z f := ⟨thereKeep h.there hb, h.len, fun i hi => rangeKeep (h.at_ i hi) hb⟩
theorem idx_le {i n z : Nat} (h : i < n) : i * z + z ≤ n * z := by
  have := Nat.mul_le_mul_right z (show i + 1 ≤ n from h)
  rw [Nat.add_mul] at this
  omega
theorem Arr.part (h : Arr w g n z f) {i : Nat} (hi : i < n) : w.there g (i * z) z := fun j hj => by
  have := h.there (i * z + j) (by have := idx_le (z := z) hi; omega)
  simpa [Nat.zero_add] using this
theorem Arr.store (h : Arr w g n z f) {i : Nat} (hi : i < n) {cs : List Value} (hc : cs.length = z) : Arr (w.setCells g (i * z) cs) g n z (fun j => if j = i then cs else f j) := by
  refine ⟨World.there_setCells h.there _ _ _, fun j hj => ?_, fun j hj => ?_⟩
  · show (if j = i then cs else f j).length = z
    split
    · exact hc
    · exact h.len j hj
  · show (w.setCells g (i * z) cs).rangeAt g (j * z) (if j = i then cs else f j)
    by_cases e : j = i
    · rw [if_pos e, e]
      exact World.rangeAt_setCells_same w g _ cs (by rw [hc]; exact h.part hi)
    · rw [if_neg e]
      refine World.rangeAt_setCells_apart (h.at_ j hj) g _ cs (.inr ?_)
      rw [h.len j hj, hc]
      rcases Nat.lt_or_ge j i with hlt | hge
      · exact .inl (idx_le hlt)
      · exact .inr (idx_le (show i < j by omega))
theorem Arr.congr {k : Nat → List Value} (h : Arr w g n z f) (e : ∀ i, i < n → k i = f i) : Arr w g n z k := ⟨h.there, fun i hi => by rw [e i hi]; exact h.len i hi, fun i hi => by rw [e i hi]; exact h.at_ i hi⟩
end
theorem madeCells_get (zc : Array Value) (hz : 0 < zc.size) (k j : Nat) (hj : j < k) : (madeCells zc k)[j]? = zc[j % zc.size]? := by
  have h1 : j % zc.size < zc.size := Nat.mod_lt _ hz
  simp [madeCells, hj, h1]
/-- Made: each element is the zero value. -/
theorem Arr.made (w : World) (zc : Array Value) (n : Nat) (e : TypeId) (hz : 0 < zc.size) : Arr (w.alloc (.cells (madeCells zc (n * zc.size)) e)) w.heap.size n zc.size (fun _ => zc.toList) := by
  have cell : ∀ j, j < n * zc.size → (w.alloc (.cells (madeCells zc (n * zc.size)) e)).cell? ⟨w.heap.size, j, none⟩ = zc[j % zc.size]? := fun j hj => by
    rw [cell_of_row _ _ _ _ e (0, 0) (heap_alloc_new w _), madeCells_get zc hz _ j hj]
  refine ⟨fun j hj => ⟨?_, ?_⟩, fun i _ => by simp, fun i hi j v hj => ?_⟩
  · rw [Nat.zero_add, cell j hj]
    have h1 : j % zc.size < zc.size := Nat.mod_lt _ hz
    simp [h1]
  · exact frozen_of_row _ _ _ _ e (heap_alloc_new w _)
  · have hjz : j < zc.size := by have := (List.getElem?_eq_some_iff.1 hj).1; simpa using this
    rw [cell _ (by have := idx_le (z := zc.size) hi; omega)]
    have e1 : (i * zc.size + j) % zc.size = j := by rw [Nat.mul_comm, Nat.mul_add_mod, Nat.mod_eq_of_lt hjz]
    rw [e1, ← Array.getElem?_toList]
    exact hj
end Go.Proofs.YtjddelmhbafelaaGreatDoor

/-
  linear.Order where one event was made: the sort of one number.
-/
namespace Go.Proofs.YtjddelmhbafelaaGreatDoor
open Go.RowKit
def Void (_ : World) (v : Value) : Prop := v = .tuple #[]
theorem ins_none (A : Option Addr) (n c m : Nat) (F : Value) (hm : m ≤ 1) (w : World) : Calls Tryz.prog 37 #[.slice A n c, .int .i64 0, .int .i64 (m : Int), F] w (Ret w Void) := by
  have d1 : decide ((1 : Int) < (m : Int)) = false := decide_eq_false (by omega)
  clear hm
  go_enter Tryz.func37, Tryz.ntmps37
  go_wp2
  refine wp_loop_rounds 1 ?_
  rw [rounds_succ]
  go_wp2
  refine bodyPost_ret (v := .tuple #[]) (by simp [results, Tryz.results37, go_sem]) rfl ?_
  exact ⟨_, rfl, Below.refl _ _, rfl⟩
theorem stable_one (A : Option Addr) (n c m : Nat) (F : Value) (hm : m ≤ 1) (w : World) : Calls Tryz.prog 25 #[.slice A n c, .int .i64 (m : Int), F] w (Ret w Void) := by
  have I := Lib.hid (ins_none A n c m F hm)
  have d1 : decide ((20 : Int) ≤ (m : Int)) = false := decide_eq_false (by omega)
  have d2 : decide ((20 : Int) < (m : Int)) = false := decide_eq_false (by omega)
  clear hm
  go_enter Tryz.func25, Tryz.ntmps25
  go_wp2
  refine wp_loop_rounds 1 ?_
  rw [rounds_succ]
  go_wp2_with fail
  refine (I.out w).mono ?_
  rintro _ w1 ⟨_, rfl, hb1, rfl⟩
  go_wp2
  refine wp_loop_rounds 1 ?_
  rw [rounds_succ]
  go_wp2
  refine bodyPost_ret (v := .tuple #[]) (by simp [results, Tryz.results25, go_sem]) rfl ?_
  exact ⟨_, rfl, hb1, rfl⟩
theorem sort_one (A : Option Addr) (n c : Nat) (F : Value) (hn : n ≤ 1) (w : World) : Calls Tryz.prog 18 #[.slice A n c, F] w (Ret w Void) := by
  have I := Lib.hid (stable_one A n c n F hn)
  have hb : n ≤ 9223372036854775807 := by omega
  clear hn
  go_enter Tryz.func18, Tryz.ntmps18
  go_wp2_with fail
  refine (I.out w).mono ?_
  rintro _ w1 ⟨_, rfl, hb1, rfl⟩
  go_wp2
  refine bodyPost_ret (v := .tuple #[]) (by simp [results, Tryz.results18, go_sem]) rfl ?_
  exact ⟨_, rfl, hb1, rfl⟩
end Go.Proofs.YtjddelmhbafelaaGreatDoor

/-
  Boxes made and filled at once; a goal at which the walk stops.
-/
namespace Go.Proofs.YtjddelmhbafelaaGreatDoor
open Go.RowKit
/-- A goal at which the walk stops. -/
def Halt (p : Prop) : Prop := p
theorem Halt.go {p : Prop} (h : Halt p) : p := h
theorem cast_world {P : Program} {Q : Exit → Act → World → Prop} {ops : Array Oper} {rest : List Oper} {a : Act} {W X : World} (e : W = X) (h : wpList P ops Q rest a W) : wpList P ops Q rest a X := e ▸ h
theorem there_new (w : World) (zc : Array Value) (e : TypeId) : (w.alloc (.cells zc e)).there w.heap.size 0 zc.size := fun j hj => by
  rw [Nat.zero_add]
  exact ⟨by rw [cell_of_row _ _ _ _ e (0, 0) (heap_alloc_new w _)]; simp [hj], frozen_of_row _ _ _ _ e (heap_alloc_new w _)⟩
/-- A box that is made and filled at once. -/
theorem box_new (w : World) (zc : Array Value) (e : TypeId) (cs : List Value) (hl : zc.size = cs.length) :
    Below w.heap.size w ((w.alloc (.cells zc e)).setCells w.heap.size 0 cs) ∧ ((w.alloc (.cells zc e)).setCells w.heap.size 0 cs).rangeAt w.heap.size 0 cs :=
  ⟨belowCells (Nat.le_refl _) cs 0 _ ((Below.refl _ _).alloc (Nat.le_refl _) _), World.rangeAt_setCells_same _ _ _ cs (by rw [← hl]; exact there_new w zc e)⟩
theorem box_range (x : World) (cs : Array Value) (e : TypeId) : (x.alloc (.cells cs e)).rangeAt x.heap.size 0 cs.toList := fun j v hj => by
  rw [Nat.zero_add, cell_of_row _ _ _ _ e (0, 0) (heap_alloc_new x _), ← Array.getElem?_toList]
  exact hj
end Go.Proofs.YtjddelmhbafelaaGreatDoor

/-
  linear.Order of many events of which one was made.
-/
namespace Go.Proofs.YtjddelmhbafelaaGreatDoor
open Go.RowKit
/-- The cells of the law's event get(i, m, a). -/
def evC (i m a : Int) : List Value := [.int .i64 0, .int .i64 4, .string ⟨⟨[97]⟩⟩, .string ⟨#[]⟩, .string ⟨#[]⟩, .int .i64 0, .slice none 0 0, .int .i64 4, .int .i64 0, .int .i64 0, .slice none 0 0, .slice none 0 0, .int .i64 i, .int .i64 m, .int .i64 a]
def evA (i m a : Int) : Array Value := #[.int .i64 0, .int .i64 4, .string ⟨⟨[97]⟩⟩, .string ⟨#[]⟩, .string ⟨#[]⟩, .int .i64 0, .slice none 0 0, .int .i64 4, .int .i64 0, .int .i64 0, .slice none 0 0, .slice none 0 0, .int .i64 i, .int .i64 m, .int .i64 a]
def evZ : Array Value := #[.int .i64 0, .int .i64 0, .string ⟨#[]⟩, .string ⟨#[]⟩, .string ⟨#[]⟩, .int .i64 0, .slice none 0 0, .int .i64 0, .int .i64 0, .int .i64 0, .slice none 0 0, .slice none 0 0, .int .i64 0, .int .i64 0, .int .i64 0]
theorem ev_one (i m a : Int) : (evA i m a).all (·.oneCell') = true := by simp [evA, Value.oneCell']
/-- n events; number k alone was made. -/
def mOf (k i : Nat) : Int := if i = k then 9000 else -1
def aOf (k i : Nat) : Int := if i = k then 9001 else -1
abbrev Evs (w : World) (g n k : Nat) : Prop := Arr w g n 15 (fun i => evC i (mOf k i) (aOf k i))
theorem infI : Inf Tryz.prog 3 encI 8 := by
  obtain ⟨i, h1, h2, h3, h4⟩ := info_parts (P := Tryz.prog) (show (Tryz.prog.info? 3).map (fun i => (i.zero, i.size, i.bytes)) = some (some (.int .i64 0), 1, 8) by kernel_rfl)
  exact ⟨⟨i, _, h1, h2, h3, h4, rfl⟩, by decide, by decide⟩
theorem Sl.oneI (w : World) (x : Int) (ty : TypeId) : Sl encI (w.alloc (.cells #[.int .i64 x] ty)) (some ⟨w.heap.size, 0, none⟩) 1 1 [x] := Sl.new encI w [x] (by simp) _ rfl ty
def outS (k j : Nat) : List Int := if k < j then [(k : Int)] else []
def ORel (w : World) (n k : Nat) (u i : Value) (wr : World) : Prop := ∃ j : Nat, i = .int .i64 j ∧ j ≤ n ∧ Below w.heap.size w wr ∧ OwnSl encI 3 wr w.heap.size u (outS k j)
theorem outS_skip {k j : Nat} (h : j ≠ k) : outS k (j + 1) = outS k j := by unfold outS; by_cases h1 : k < j <;> simp [h1] <;> omega
theorem outS_put (k : Nat) : outS k (k + 1) = outS k k ++ [(k : Int)] := by unfold outS; simp
theorem outS_end {k n : Nat} (h : k < n) : outS k n = [(k : Int)] := by unfold outS; simp [h]
set_option maxRecDepth 100000 in
set_option maxHeartbeats 4000000 in
theorem cOrder {w : World} {g n c k : Nat} (h : Evs w g n k) (hk : k < n) (hn : n ≤ 4096) : Calls Tryz.prog 14 #[.slice (some ⟨g, 0, none⟩) n c] w (Ret w (fun w' v => ∃ A c, v = .tuple #[.slice A 1 c, .int .i64 0] ∧ Sl encI w' A 1 c [(k : Int)])) := by
  have H := Lib.hid h; have HK := Lib.hid hk; have HN := Lib.hid hn
  have d0 : decide ((4096 : Int) < (n : Int)) = false := decide_eq_false (by omega)
  have HBG : n ≤ 9223372036854775807 := by omega
  clear h hk hn
  go_enter Tryz.func14, Tryz.ntmps14
  go_wp2
  clear d0
  go_loopw [4, 12] (fun u i wr => ORel w n k u i wr) (fun _ i _ => n - (intOf i).toNat)
  case atStart => exact ⟨0, rfl, Nat.zero_le _, by go_grown, OwnSl.nil_ _ _ _ _⟩
  case round =>
    obtain ⟨j, rfl, hj, hb, hown⟩ := hrel
    have HB := Lib.hid hb; have OWN := Lib.hid hown
    clear hb hown
    by_cases hlt : j < n
    · have R := Lib.hid ((H.out.mono HB.out).at_ j hlt)
      have HLT := Lib.hid hlt
      have hbox := box_new wr evZ 40 (evC j (mOf k j) (aOf k j)) rfl
      obtain ⟨W2, hW2⟩ : ∃ W2, W2 = (wr.alloc (.cells evZ 40)).setCells wr.heap.size 0 (evC j (mOf k j) (aOf k j)) := ⟨_, rfl⟩
      rw [← hW2] at hbox
      have HW2 := Lib.hid hW2
      have HB2 := Lib.hid (HB.out.le hbox.1)
      have OW2 := Lib.hid (OWN.out.mono hbox.1)
      have hc4 : W2.cell? ⟨wr.heap.size, 13, none⟩ = some (.int .i64 (mOf k j)) := hbox.2 13 _ rfl
      clear hbox hW2
      by_cases hjk : j = k
      · have e : mOf k j = 9000 := by unfold mOf; rw [if_pos hjk]
        rw [e] at hc4
        have C4 := Lib.hid hc4; have EJ := Lib.hid hjk
        clear hc4 e hjk
        have OWA := Lib.hid (OW2.out.mono ((Below.refl _ _).alloc (Nat.le_refl _) (.cells #[.int .i64 (j : Int)] 3)))
        have HSA := Lib.hid (show w.heap.size ≤ (W2.alloc (.cells #[.int .i64 (j : Int)] 3)).heap.size by have := HB2.out.size; simp; omega)
        go_wp2_with (first
          | (refine wpList_load_mid rfl 40 _ rfl _ _ rfl _ _ R.out Tryz.underlying40 rfl (show (Tryz.prog.info? 40).map (·.size) = some 15 by kernel_rfl) ?_; simp only [evC, Act.put, List.setIfInBounds_toArray, List.set_cons_zero, List.set_cons_succ])
          | (refine wpList_store_mid rfl 40 _ _ rfl wr.heap.size 0 (evA j (mOf k j) (aOf k j)) rfl rfl (there_new wr _ _) (show (Tryz.prog.info? 40).map (·.size) = some 15 by kernel_rfl) (ev_one _ _ _) ?_;
             simp only [Act.put, List.setIfInBounds_toArray, List.set_cons_zero, List.set_cons_succ];
             refine cast_world HW2.out ?_; have x4 := C4.out)
          | (at_builtin; refine wpList_appS (B := w.heap.size) (l := outS k j) infI rfl rfl Tryz.underlying27 rfl rfl OWA.out (Sl.oneI _ _ _) (by unfold outS; split <;> simp) HSA.out ?_; intro v1 w1 ho1 hg1 _; have HO1 := Lib.hid ho1; have HG1 := Lib.hid hg1; clear ho1 hg1)
          | fail)
        go_roundw
        case rel => exact ⟨j + 1, by simp, HLT.out, (HB2.out.alloc HB2.out.size _).grown HG1.out HSA.out (fun q hq => (OWA.out.own q hq).1), by have e := HO1.out; rw [EJ.out] at e ⊢; rw [outS_put]; exact e⟩
        case measure => simp [intOf]; omega
      · have e : mOf k j = -1 := by unfold mOf; rw [if_neg hjk]
        rw [e] at hc4
        have C4 := Lib.hid hc4; have NJ := Lib.hid hjk
        clear hc4 e hjk
        go_wp2_with (first
          | (refine wpList_load_mid rfl 40 _ rfl _ _ rfl _ _ R.out Tryz.underlying40 rfl (show (Tryz.prog.info? 40).map (·.size) = some 15 by kernel_rfl) ?_; simp only [evC, Act.put, List.setIfInBounds_toArray, List.set_cons_zero, List.set_cons_succ])
          | (refine wpList_store_mid rfl 40 _ _ rfl wr.heap.size 0 (evA j (mOf k j) (aOf k j)) rfl rfl (there_new wr _ _) (show (Tryz.prog.info? 40).map (·.size) = some 15 by kernel_rfl) (ev_one _ _ _) ?_;
             simp only [Act.put, List.setIfInBounds_toArray, List.set_cons_zero, List.set_cons_succ];
             refine cast_world HW2.out ?_; have x4 := C4.out)
          | (at_builtin; refine wpList_appS (B := w.heap.size) (l := outS k j) infI rfl rfl Tryz.underlying27 rfl rfl OWA.out (Sl.oneI _ _ _) (by unfold outS; split <;> simp) HSA.out ?_; intro v1 w1 ho1 hg1 _; have HO1 := Lib.hid ho1; have HG1 := Lib.hid hg1; clear ho1 hg1)
          | fail)
        go_roundw
        case rel => exact ⟨j + 1, by simp, HLT.out, HB2.out, by rw [outS_skip NJ.out]; exact OW2.out⟩
        case measure => simp [intOf]; omega
    · have hjn : j = n := by omega
      subst hjn
      have hown := OWN.out
      rw [outS_end HK.out] at hown
      obtain ⟨A, c9, rfl, hsl⟩ := hown.sl
      have SL := Lib.hid hsl
      clear hown hsl OWN H
      simp only [List.length_singleton] at *
      go_wp2_with fail
      refine (sort_one A 1 c9 _ (Nat.le_refl _) _).mono ?_
      rintro _ w5 ⟨_, rfl, hb5, rfl⟩
      have HB5 := Lib.hid (HB.out.le hb5); have SL5 := Lib.hid (SL.out.mono hb5)
      clear hb5
      go_wp2
      refine bodyPost_ret (v := .tuple #[.slice A 1 c9, .int .i64 0]) (by simp [results, Tryz.results14, go_sem]) rfl ?_
      exact ⟨_, rfl, HB5.out, _, _, rfl, SL5.out⟩
theorem cOrderLong (A : Option Addr) (n c : Nat) (w : World) (h : 4096 < n) (hn : n ≤ 9223372036854775807) : Calls Tryz.prog 14 #[.slice A n c] w (Ret w (Is (.tuple #[.slice none 0 0, .int .i64 5]))) := by
  have d1 : decide ((4096 : Int) < (n : Int)) = true := decide_eq_true (by omega)
  clear h
  go_enter Tryz.func14, Tryz.ntmps14
  go_wp2
  refine bodyPost_ret (v := .tuple #[.slice none 0 0, .int .i64 5]) (by simp [results, Tryz.results14, go_sem]) rfl ?_
  exact ⟨_, rfl, by go_grown, rfl⟩
end Go.Proofs.YtjddelmhbafelaaGreatDoor

/-
  A fresh model, its copies, and a call of OpGet; reckoned.
-/
namespace Go.Proofs.YtjddelmhbafelaaGreatDoor
open Go.RowKit
abbrev SatG (w : World) : Prop := V.Sat 400 V.still (V.lk G0) w ∧ V.WF 400 (V.lk G0) 400
theorem sat_keep {w w' : World} (hs : SatG w) (hb : Below w.heap.size w w') : SatG w' := ⟨V.sat_below hs.1 hb, hs.2⟩
namespace V
section
variable {P : Program} {B : Nat} [Low B]
theorem blkH2 {call : CallE} (hc : CallOK P B call) (hok : P.funcs.toList.all okFn = true) {f : FuncId} {args : List Value} {H : AH} {n : Nat} {r : Res} (h : call f args H n = .ok r) (hargs : args.all (below n deep) = true)
    (hbody : ((P.funcs[f]?).bind Func.body).isSome = true) (hwr : r.wr = []) {j : Nat} (hv : r.v = .tuple ⟨[.pointer (some ⟨j, 0, none⟩), .int .i64 (.ofNat 0)]⟩) {cs : List Value} {e : TypeId} {es : Nat} {x : Bool} (hj : get r.H j = .ok (.cells cs e es x)) (hcs : cs.all (below B deep) = true)
    {ρ : Lies} {w : World} (hs : Sat B ρ (lk H) w ∧ WF B (lk H) n) : Calls P f (args.map (ren ρ)).toArray w (Ret w (fun w' v => ∃ K o, v = .tuple #[.pointer (some ⟨K, o, none⟩), .int .i64 0] ∧ BlkAt w' K o cs e)) := by
  rcases hc f args H n r h ρ w hs.1 hs.2 (List.all_eq_true.1 hargs) with ⟨_, h2⟩ | ⟨v, w', h1, _⟩
  · refine Calls.mono h2 fun e w' he => ?_
    obtain ⟨v, rfl, ρ', rfl, k1, k2, k3⟩ := he
    rw [hwr] at k2
    refine ⟨_, rfl, ⟨k2.os, k2.tape, k2.output, k2.size, fun b hb => k2.frame b hb (fun i hi => by cases hi)⟩, ?_⟩
    obtain ⟨c, fr, g1, g2, g3, g4, g5⟩ := k1.at_ j _ (lk_ok.2 hj)
    refine ⟨(ρ' j).blk, (ρ' j).sh, by rw [hv]; simp [ren, ra], c, fr, g1, fun k v hk => ?_, by omega, g5⟩
    have := g2 k v hk
    rwa [ren_closed k1.fix (List.all_eq_true.1 hcs v (List.mem_of_getElem? hk))] at this
  · rw [enter_of hok hbody] at h1; cases h1
noncomputable def isBlk2 (x : R Res) (cs : List Value) (e : TypeId) : Bool := match x with
  | .ok r => r.wr.isEmpty && (match r.v with | .tuple ⟨[.pointer (some ⟨j, 0, none⟩), .int .i64 (.ofNat 0)]⟩ => (match get r.H j with | .ok (.cells cs' e' _ _) => sameL (sameV 6) cs' cs && Nat.beq e' e | _ => false) | _ => false)
  | .no _ => false
theorem isBlk2_ok {x : R Res} {cs : List Value} {e : TypeId} (h : isBlk2 x cs e = true) : ∃ r j es b, x = .ok r ∧ r.wr = [] ∧ r.v = .tuple ⟨[.pointer (some ⟨j, 0, none⟩), .int .i64 (.ofNat 0)]⟩ ∧ get r.H j = .ok (.cells cs e es b) := by
  unfold isBlk2 at h
  cases x with
  | no s => cases h
  | ok r =>
    simp only [Bool.and_eq_true, List.isEmpty_iff] at h
    obtain ⟨h1, h2⟩ := h
    split at h2
    · rename_i j hj
      split at h2
      · rename_i cs' e' es b hg
        rw [Bool.and_eq_true] at h2
        have e1 := sameL_ok _ _ (fun a _ b => sameV_ok _ a b) h2.1
        have e2 := Nat.eq_of_beq_eq_true h2.2
        subst e1
        subst e2
        exact ⟨r, j, es, b, rfl, h1, hj, hg⟩
      · cases h2
    · cases h2
end
end V
def modG : List Value := [.int .i64 (.ofNat 1), .int .i64 (.ofNat 1), .int .i64 (.ofNat 3), .int .i64 (.ofNat 2), .slice none 0 0, .int .i64 (.ofNat 1024), .int .i64 (.ofNat 0), .slice none 0 0, .slice none 0 0, .slice none 0 0, .bool false]
def confL : Value := .agg ⟨[.int .i64 (.ofNat 1), .int .i64 (.ofNat 1), .int .i64 (.ofNat 3), .int .i64 (.ofNat 2)]⟩
def getL : Value := .agg ⟨[.int .i64 (.ofNat 4), .string ⟨⟨[97]⟩⟩, .string ⟨⟨[]⟩⟩, .string ⟨⟨[]⟩⟩, .int .i64 (.ofNat 0), .slice none 0 0]⟩
def ansL : Value := .agg ⟨[.int .i64 (.ofNat 4), .int .i64 (.ofNat 0), .int .i64 (.ofNat 0), .slice none 0 0, .slice none 0 0]⟩
theorem newg_run : V.isBlk2 (V.callT Tryz.prog 400 MM V.noTab 2000 100 21 [confL] G0 400) modG 76 = true := by kernel_rfl
theorem newg_body : ((Tryz.prog.funcs[21]?).bind Func.body).isSome = true := by kernel_rfl
theorem copy_run : V.isBlk (V.callT Tryz.prog 400 MM V.noTab 2000 100 33 [.pointer (some ⟨400, 0, none⟩)] ((400, .cells modG 76 1 false) :: G0) 401) modG 76 = true := by kernel_rfl
theorem copy_body : ((Tryz.prog.funcs[33]?).bind Func.body).isSome = true := by kernel_rfl
theorem doget_run : V.isVal (V.callT Tryz.prog 400 MM V.noTab 2000 100 29 [.pointer (some ⟨400, 0, none⟩), getL] ((400, .cells modG 76 1 false) :: G0) 401) (.tuple ⟨[ansL, .int .i64 (.ofNat 0)]⟩) = true := by kernel_rfl
theorem doget_body : ((Tryz.prog.funcs[29]?).bind Func.body).isSome = true := by kernel_rfl
theorem csame_run : V.isTrue (V.callT Tryz.prog 400 MM V.noTab 2000 100 30 [ansL, ansL] G0 400) = true := by kernel_rfl
theorem csame_body : ((Tryz.prog.funcs[30]?).bind Func.body).isSome = true := by kernel_rfl
/-- A fresh model lies at K, o. -/
abbrev FreshG (w : World) (K o : Nat) : Prop := BlkAt w K o modG 76
theorem fresh_off {w : World} {K o : Nat} (hs : SatG w) (hK : FreshG w K o) : ∀ i p, V.lk G0 i = some p → i ≠ K := fun i p ho e => by
  have ha := hs.1.at_ i p ho
  subst e
  have hg := V.lk_ok.1 ho
  obtain ⟨c0, fr0, hK0, _⟩ := hK
  unfold G0 V.get at hg
  split at hg
  · cases hg
    obtain ⟨c, fr, g1, _⟩ := ha
    have g2 : w.heap[i]? = some (.cells c 167 fr) := g1
    rw [hK0] at g2
    cases g2
  · cases hg
theorem cNewG {w : World} (hs : SatG w) : Calls Tryz.prog 21 #[.agg #[.int .i64 1, .int .i64 1, .int .i64 3, .int .i64 2]] w (Ret w (fun w' v => ∃ K o, v = .tuple #[.pointer (some ⟨K, o, none⟩), .int .i64 0] ∧ FreshG w' K o)) := by
  obtain ⟨r, j, es, b, hr, hwr, hv, hj⟩ := V.isBlk2_ok newg_run
  have := V.blkH2 (V.callT_ok mixed_ok funcs_ok MMok V.noTab_ok 2000 100) funcs_ok hr (by kernel_rfl) newg_body hwr hv hj (by kernel_rfl) hs
  have e2 : V.ren V.still confL = confL := V.ren_closed (B := 400) (fun _ _ => rfl) (by kernel_rfl : V.below 400 V.deep confL = true)
  simp only [List.map_cons, List.map_nil, e2] at this
  exact this
theorem ptr_at {K o : Nat} : V.ren (V.at2 400 K o) (.pointer (some ⟨400, 0, none⟩)) = .pointer (some ⟨K, o, none⟩) := by simp [V.ren, V.ra, V.at2]
theorem cCopy {w : World} {K o : Nat} (hs : SatG w) (hK : FreshG w K o) : Calls Tryz.prog 33 #[.pointer (some ⟨K, o, none⟩)] w (Ret w (fun w' v => ∃ K o, v = .pointer (some ⟨K, o, none⟩) ∧ FreshG w' K o)) := by
  obtain ⟨r, j, es, b, hr, hwr, hv, hj⟩ := V.isBlk_ok copy_run
  have := V.blkH (V.callT_ok mixed_ok funcs_ok MMok V.noTab_ok 2000 100) funcs_ok hr (by kernel_rfl) copy_body hwr hv hj (by kernel_rfl) (V.sat_blk (es := 1) hs (by kernel_rfl) hK (fresh_off hs hK))
  simp only [List.map_cons, List.map_nil, ptr_at] at this
  exact this
theorem cDoG {w : World} {K o : Nat} (hs : SatG w) (hK : FreshG w K o) : Calls Tryz.prog 29 #[.pointer (some ⟨K, o, none⟩), .agg #[.int .i64 4, .string ⟨⟨[97]⟩⟩, .string ⟨#[]⟩, .string ⟨#[]⟩, .int .i64 0, .slice none 0 0]] w
    (Ret w (Is (.tuple #[.agg #[.int .i64 4, .int .i64 0, .int .i64 0, .slice none 0 0, .slice none 0 0], .int .i64 0]))) := by
  obtain ⟨r, hr, hwr, hv⟩ := V.isVal_ok doget_run
  have := V.valH (V.callT_ok mixed_ok funcs_ok MMok V.noTab_ok 2000 100) funcs_ok hr (by kernel_rfl) doget_body hwr (by rw [hv]; kernel_rfl) (V.sat_blk (es := 1) hs (by kernel_rfl) hK (fresh_off hs hK))
  rw [hv] at this
  have e2 : V.ren (V.at2 400 K o) getL = getL := V.ren_closed (B := 400) (fun _ h => V.at2_low h) (by kernel_rfl : V.below 400 V.deep getL = true)
  simp only [List.map_cons, List.map_nil, ptr_at, e2] at this
  exact this
theorem cSameG {w : World} (hs : SatG w) : Calls Tryz.prog 30 #[.agg #[.int .i64 4, .int .i64 0, .int .i64 0, .slice none 0 0, .slice none 0 0], .agg #[.int .i64 4, .int .i64 0, .int .i64 0, .slice none 0 0, .slice none 0 0]] w (Ret w (IsB true)) :=
  V.trueH (V.callT_ok mixed_ok funcs_ok MMok V.noTab_ok 2000 100) funcs_ok csame_run rfl csame_body hs
end Go.Proofs.YtjddelmhbafelaaGreatDoor

/-
  Does an event fit, and may it be the next one; where one event was made.
-/
namespace Go.Proofs.YtjddelmhbafelaaGreatDoor
open Go.RowKit
set_option maxRecDepth 100000 in
set_option maxHeartbeats 4000000 in
theorem cFits {w : World} {K o : Nat} (hs : SatG w) (hK : FreshG w K o) (i m a : Int) : Calls Tryz.prog 22 #[.pointer (some ⟨K, o, none⟩), .agg (evA i m a)] w (Ret w (IsB true)) := by
  have HS := Lib.hid hs; have HK := Lib.hid hK
  clear hs hK
  unfold evA
  go_enter Tryz.func22, Tryz.ntmps22
  go_wp2_with fail
  have hx : Below w.heap.size w (w.alloc (.cells (evA i m a) 40)) := (Below.refl _ _).alloc (Nat.le_refl _) _
  refine (cDoG (sat_keep HS.out hx) (HK.out.mono hx)).mono ?_
  rintro _ w3 ⟨_, rfl, hb3, rfl⟩
  have hw : Below w3.heap.size w3 (w3.alloc (.cells #[.int .i64 4, .int .i64 0, .int .i64 0, .slice none 0 0, .slice none 0 0] 38)) := by go_grown
  have ra := rangeKeep (rangeKeep (box_range w (evA i m a) 40) hb3) hw
  have c7 : (w3.alloc (.cells #[.int .i64 4, .int .i64 0, .int .i64 0, .slice none 0 0, .slice none 0 0] 38)).cell? ⟨w.heap.size, 7, none⟩ = some (.int .i64 4) := ra 7 _ rfl
  have c8 : (w3.alloc (.cells #[.int .i64 4, .int .i64 0, .int .i64 0, .slice none 0 0, .slice none 0 0] 38)).cell? ⟨w.heap.size, 8, none⟩ = some (.int .i64 0) := ra 8 _ rfl
  have c9 : (w3.alloc (.cells #[.int .i64 4, .int .i64 0, .int .i64 0, .slice none 0 0, .slice none 0 0] 38)).cell? ⟨w.heap.size, 9, none⟩ = some (.int .i64 0) := ra 9 _ rfl
  have c10 : (w3.alloc (.cells #[.int .i64 4, .int .i64 0, .int .i64 0, .slice none 0 0, .slice none 0 0] 38)).cell? ⟨w.heap.size, 10, none⟩ = some (.slice none 0 0) := ra 10 _ rfl
  have c11 : (w3.alloc (.cells #[.int .i64 4, .int .i64 0, .int .i64 0, .slice none 0 0, .slice none 0 0] 38)).cell? ⟨w.heap.size, 11, none⟩ = some (.slice none 0 0) := ra 11 _ rfl
  have HX := Lib.hid ((hx.le hb3).le hw)
  clear hb3 hx ra hw
  go_wp2_with fail
  refine (cSameG (sat_keep HS.out HX.out)).mono ?_
  rintro _ w4 ⟨_, rfl, hb4, rfl⟩
  have HY := Lib.hid hb4
  clear hb4
  go_wp2
  refine bodyPost_ret (v := .bool true) (by simp [results, Tryz.results22, go_sem]) rfl ?_
  exact ⟨_, rfl, HX.out.le HY.out, rfl⟩
theorem cBefore (i m j n b : Int) (h : j ≤ 9001) (w : World) : Calls Tryz.prog 67 #[.agg (evA i m 9001), .agg (evA j n b)] w (Ret w (IsB false)) := by
  have d1 : decide ((9001 : Int) < j) = false := decide_eq_false (by omega)
  clear h
  unfold evA
  go_enter Tryz.func67, Tryz.ntmps67
  go_wp2
  refine bodyPost_ret (v := .bool false) (by simp [results, Tryz.results67, go_sem]) rfl ?_
  exact ⟨_, rfl, by go_grown, rfl⟩
end Go.Proofs.YtjddelmhbafelaaGreatDoor

/-
  Go's library over a list of one number: Sort, Clone, Delete; and what search.first asks.
-/
namespace Go.Proofs.YtjddelmhbafelaaGreatDoor
open Go.RowKit
theorem len_run : V.isVal (V.callT Tryz.prog 400 MM V.noTab 2000 100 32 [.int .u64 (.ofNat 1)] G0 400) (.int .i64 (.ofNat 1)) = true := by kernel_rfl
theorem len_body : ((Tryz.prog.funcs[32]?).bind Func.body).isSome = true := by kernel_rfl
theorem cLen {w : World} (hs : SatG w) : Calls Tryz.prog 32 #[.int .u64 1] w (Ret w (Is (.int .i64 1))) := by
  obtain ⟨r, hr, hwr, hv⟩ := V.isVal_ok len_run
  have := V.valH (V.callT_ok mixed_ok funcs_ok MMok V.noTab_ok 2000 100) funcs_ok hr (by kernel_rfl) len_body hwr (by rw [hv]; kernel_rfl) hs
  rw [hv] at this
  simp only [List.map_cons, List.map_nil, V.ren] at this
  exact this
theorem insO_one (A : Option Addr) (c : Nat) (w : World) : Calls Tryz.prog 53 #[.slice A 1 c, .int .i64 0, .int .i64 1] w (Ret w Void) := by
  go_enter Tryz.func53, Tryz.ntmps53
  go_wp2
  refine wp_loop_rounds 1 ?_
  rw [rounds_succ]
  go_wp2
  refine bodyPost_ret (v := .tuple #[]) (by simp [results, Tryz.results53, go_sem]) rfl ?_
  exact ⟨_, rfl, Below.refl _ _, rfl⟩
theorem pdq_one (A : Option Addr) (c : Nat) (w : World) : Calls Tryz.prog 31 #[.slice A 1 c, .int .i64 0, .int .i64 1, .int .i64 1] w (Ret w Void) := by
  have I := Lib.hid (insO_one A c)
  go_enter Tryz.func31, Tryz.ntmps31
  go_wp2
  refine wp_loop_rounds 1 ?_
  rw [rounds_succ]
  go_wp2_with fail
  refine (I.out w).mono ?_
  rintro _ w1 ⟨_, rfl, hb1, rfl⟩
  go_wp2
  refine bodyPost_ret (v := .tuple #[]) (by simp [results, Tryz.results31, go_sem]) rfl ?_
  exact ⟨_, rfl, hb1, rfl⟩
theorem cSort {w : World} (hs : SatG w) (A : Option Addr) (c : Nat) : Calls Tryz.prog 23 #[.slice A 1 c] w (Ret w Void) := by
  have I := Lib.hid (pdq_one A c); have HS := Lib.hid hs
  clear hs
  go_enter Tryz.func23, Tryz.ntmps23
  go_wp2_with fail
  refine (cLen HS.out).mono ?_
  rintro _ w1 ⟨_, rfl, hb1, rfl⟩
  have HB1 := Lib.hid hb1
  clear hb1
  go_wp2_with fail
  refine (I.out w1).mono ?_
  rintro _ w2 ⟨_, rfl, hb2, rfl⟩
  have HB2 := Lib.hid (HB1.out.le hb2)
  clear hb2
  go_wp2
  refine bodyPost_ret (v := .tuple #[]) (by simp [results, Tryz.results23, go_sem]) rfl ?_
  exact ⟨_, rfl, HB2.out, rfl⟩
end Go.Proofs.YtjddelmhbafelaaGreatDoor

/-
  May the one event that was made be the next one: search.first.
-/
namespace Go.Proofs.YtjddelmhbafelaaGreatDoor
open Go.RowKit
section
variable {P : Program} {ops : List Oper} {Fs : List VT} {w0 : World} {a0 : Act} {i : Nat} {d : Option Tmp} {ty : TypeId} {pos : String} {after : Array Edge} {g : Option (Nat × Bool)}
theorem Ob.nilV {x : Operand} {p : Addr} (hw : Wanted ops Fs w0 a0 i ⟨d, .nilCheck x, ty, pos, after, g⟩) (hx : Has ops Fs w0 a0 i ⟨d, .nilCheck x, ty, pos, after, g⟩ x (Is (.pointer (some p)))) : Ob P ops Fs w0 a0 i ⟨d, .nilCheck x, ty, pos, after, g⟩ (Is (.pointer (some p))) :=
  Ob.stay hw fun a w cx => ⟨.pointer (some p), by
    have h1 : a.eval x = .pointer (some p) := hx a w cx
    generalize a.eval = ρ at h1
    simp [execOp, h1], rfl⟩
end
theorem entersBefore : Enters Tryz.prog 67 := enters_of Tryz.func67 (by kernel_rfl) rfl
section
variable {w0 w : World} {b o : Nat}
theorem load_pS {S : Nat} (hb : Below w0.heap.size w0 w) (h1 : w0.cell? ⟨b, o, none⟩ = some (.pointer (some ⟨S, 0, none⟩))) : (Instr.loadAt 63 (.pointer (some ⟨b, o, none⟩))).run Tryz.prog w = .ok (.pointer (some ⟨S, 0, none⟩)) w := by
  have c1 := cellKeep hb h1
  simp [go_sem, c1]
theorem load_evs {A : Option Addr} {n c : Nat} (hb : Below w0.heap.size w0 w) (h1 : w0.cell? ⟨b, o, none⟩ = some (.slice A n c)) : (Instr.loadAt 22 (.pointer (some ⟨b, o, none⟩))).run Tryz.prog w = .ok (.slice A n c) w := by
  have c1 := cellKeep hb h1
  simp [go_sem, c1]
theorem index_ev {n c k : Nat} (hk : k < n) : (Instr.indexAt 22 (.slice (some ⟨b, 0, none⟩) n c) (.int .i64 (k : Int))).run Tryz.prog w = .ok (.pointer (some ⟨b, k * 15, none⟩)) w := by
  have h1 : (0 : Int) ≤ (k : Int) := by omega
  have h2 : (k : Int) < (n : Int) := by omega
  simp [go_sem, h1, h2]
theorem load_ev {i m a : Int} (hb : Below w0.heap.size w0 w) (h1 : w0.rangeAt b o (evC i m a)) : (Instr.loadAt 40 (.pointer (some ⟨b, o, none⟩))).run Tryz.prog w = .ok (.agg (evA i m a)) w :=
  run_loadAt_mid w b o 40 (evC i m a) _ (rangeKeep h1 hb) Tryz.underlying40 rfl (show (Tryz.prog.info? 40).map (·.size) = some 15 by kernel_rfl)
theorem field_s0 : (Instr.fieldAt 65 (.pointer (some ⟨b, o, none⟩)) 0).run Tryz.prog w = .ok (.pointer (some ⟨b, o, none⟩)) w := by simp [go_sem]
end
theorem Evs.here {w : World} {g n k : Nat} (h : Evs w g n k) (hk : k < n) : w.rangeAt g (k * 15) (evC k 9000 9001) := by
  have := h.at_ k hk
  simpa [mOf, aOf] using this
set_option maxRecDepth 100000 in
set_option maxHeartbeats 4000000 in
theorem cFirst1 {w : World} {g n c k S X Y : Nat} (h : Evs w g n k) (hk : k < n) (hn : n ≤ 4096) (hx : w.cell? ⟨X, 0, none⟩ = some (.pointer (some ⟨S, 0, none⟩))) (hy : w.cell? ⟨Y, 0, none⟩ = some (.int .i64 k)) (hs : w.cell? ⟨S, 0, none⟩ = some (.slice (some ⟨g, 0, none⟩) n c)) :
    Calls Tryz.prog 66 #[.int .i64 k, .pointer (some ⟨X, 0, none⟩), .pointer (some ⟨Y, 0, none⟩)] w (Ret w (IsB false)) := by
  have R := Lib.hid (h.here hk); have HK := Lib.hid hk; have HX := Lib.hid hx; have HY := Lib.hid hy; have HS := Lib.hid hs
  have BF := Lib.hid (fun w1 => cBefore k 9000 k 9000 9001 (by omega) w1)
  clear h hk hn hx hy hs
  go_enter Tryz.func66, Tryz.ntmps66
  go_wp2_with fail
  refine wp_region_M mixed (by kernel_rfl) ?_
  refine MDerR.step (Ob.loadV Wanted.free Has.oldIs (fun w1 hb1 => load_pS hb1 HX.out)) ?_
  refine MDerR.step (Ob.nilV Wanted.free (Has.new 0 0)) ?_
  refine MDerR.step (Ob.fieldV Wanted.free (Has.new 1 0) (fun w1 => field_s0)) ?_
  refine MDerR.step (Ob.loadV Wanted.free (Has.new 2 0) (fun w1 hb1 => load_evs hb1 HS.out)) ?_
  refine MDerR.step (Ob.move Wanted.free Has.oldIs) ?_
  refine MDerR.step (Ob.indexV Wanted.free (Has.new 3 1) (Has.new 4 0) (fun w1 => index_ev HK.out)) ?_
  refine MDerR.step (Ob.loadV Wanted.free (Has.new 5 0) (fun w1 hb1 => load_ev hb1 R.out)) ?_
  refine MDerR.step (Ob.loadV Wanted.free Has.oldIs (fun w1 hb1 => load_pS hb1 HX.out)) ?_
  refine MDerR.step (Ob.nilV Wanted.free (Has.new 7 0)) ?_
  refine MDerR.step (Ob.fieldV Wanted.free (Has.new 8 0) (fun w1 => field_s0)) ?_
  refine MDerR.step (Ob.loadV Wanted.free (Has.new 9 0) (fun w1 hb1 => load_evs hb1 HS.out)) ?_
  refine MDerR.step (Ob.loadV Wanted.free Has.oldIs (fun w1 hb1 => load_int hb1 HY.out)) ?_
  refine MDerR.step (Ob.indexV Wanted.free (Has.new 10 1) (Has.new 11 0) (fun w1 => index_ev HK.out)) ?_
  refine MDerR.step (Ob.loadV Wanted.free (Has.new 12 0) (fun w1 hb1 => load_ev hb1 R.out)) ?_
  refine MDerR.step (Ob.call2V Wanted.free entersBefore (Has.new 6 7) (Has.new 13 0) (fun w1 hb1 => BF.out w1)) ?_
  refine MDerR.step (Ob.assign Wanted.free (Has.new 14 0)) ?_
  simp only [MDerR, dstsOf, List.map, EndM, List.reverse_cons, List.reverse_nil, List.nil_append, List.cons_append]
  intro wE hE
  iterate 16 (rintro _ rfl)
  simp only [Act.put, List.setIfInBounds_toArray, List.set_cons_zero, List.set_cons_succ]
  go_wp2
  go_ret
  exact retB rfl hE
end Go.Proofs.YtjddelmhbafelaaGreatDoor

/-
  search.first of the one event that was made: true.
-/
namespace Go.Proofs.YtjddelmhbafelaaGreatDoor
open Go.RowKit
/-- What the closure of first reads. -/
structure FirstAt (w : World) (g n c k S X Y : Nat) : Prop where
  evs : Evs w g n k
  lt : k < n
  le : n ≤ 4096
  x : w.cell? ⟨X, 0, none⟩ = some (.pointer (some ⟨S, 0, none⟩))
  y : w.cell? ⟨Y, 0, none⟩ = some (.int .i64 k)
  s : w.cell? ⟨S, 0, none⟩ = some (.slice (some ⟨g, 0, none⟩) n c)
theorem FirstAt.mono {w w' : World} {g n c k S X Y : Nat} (h : FirstAt w g n c k S X Y) (hb : Below w.heap.size w w') : FirstAt w' g n c k S X Y :=
  ⟨h.evs.mono hb, h.lt, h.le, cellKeep hb h.x, cellKeep hb h.y, cellKeep hb h.s⟩
set_option maxRecDepth 100000 in
theorem cIdx1 {w : World} {g n c k S X Y : Nat} (h : FirstAt w g n c k S X Y) {A : Option Addr} {ca : Nat} (hl : Sl encI w A 1 ca [(k : Int)]) :
    Calls Tryz.prog 101 #[.slice A 1 ca, .func (.func 66) #[] #[.pointer (some ⟨X, 0, none⟩), .pointer (some ⟨Y, 0, none⟩)]] w (Ret w (IsI (-1))) := by
  obtain ⟨b, o, x, rfl, -, h1, -, c1⟩ := hl.int (i := 0) (by decide)
  cases h1
  simp only [Nat.add_zero] at c1
  have H := Lib.hid h
  clear h hl
  go_enter Tryz.func101, Tryz.ntmps101
  go_wp2
  refine wp_loop_rounds 2 ?_
  rw [rounds_succ]
  go_wp2_with fail
  refine (cFirst1 H.out.evs H.out.lt H.out.le H.out.x H.out.y H.out.s).mono ?_
  rintro _ w1 ⟨_, rfl, hb1, rfl⟩
  have HB := Lib.hid hb1
  clear hb1
  go_wp2
  rw [rounds_succ]
  go_wp2
  go_ret
  exact ⟨_, rfl, HB.out, rfl⟩
theorem cHas1 {w : World} {g n c k S X Y : Nat} (h : FirstAt w g n c k S X Y) {A : Option Addr} {ca : Nat} (hl : Sl encI w A 1 ca [(k : Int)]) :
    Calls Tryz.prog 65 #[.slice A 1 ca, .func (.func 66) #[] #[.pointer (some ⟨X, 0, none⟩), .pointer (some ⟨Y, 0, none⟩)]] w (Ret w (IsB false)) := by
  have C := Lib.hid (cIdx1 h hl)
  clear h hl
  go_enter Tryz.func65, Tryz.ntmps65
  go_wp2_with fail
  refine C.out.mono ?_
  rintro _ w1 ⟨_, rfl, hb1, rfl⟩
  have HB := Lib.hid hb1
  clear hb1
  go_wp2
  go_ret
  exact retB rfl HB.out
theorem cFirst {w : World} {g n c k S ca : Nat} {A : Option Addr} (he : Evs w g n k) (hk : k < n) (hn : n ≤ 4096) (h0 : w.cell? ⟨S, 0, none⟩ = some (.slice (some ⟨g, 0, none⟩) n c)) (h1 : w.cell? ⟨S, 1, none⟩ = some (.slice A 1 ca)) (hl : Sl encI w A 1 ca [(k : Int)]) :
    Calls Tryz.prog 34 #[.pointer (some ⟨S, 0, none⟩), .int .i64 k] w (Ret w (IsB true)) := by
  have hb1 : Below w.heap.size w (w.alloc (.cells #[.pointer (some ⟨S, 0, none⟩)] 63)) := (Below.refl _ _).alloc (Nat.le_refl _) _
  have hb2 : Below w.heap.size w ((w.alloc (.cells #[.pointer (some ⟨S, 0, none⟩)] 63)).alloc (.cells #[.int .i64 k] 3)) := hb1.alloc (by simp) _
  have hb3 : Below (w.alloc (.cells #[.pointer (some ⟨S, 0, none⟩)] 63)).heap.size (w.alloc (.cells #[.pointer (some ⟨S, 0, none⟩)] 63)) ((w.alloc (.cells #[.pointer (some ⟨S, 0, none⟩)] 63)).alloc (.cells #[.int .i64 k] 3)) := (Below.refl _ _).alloc (Nat.le_refl _) _
  have hx := cellKeep hb3 (box_range w #[.pointer (some ⟨S, 0, none⟩)] 63 0 _ rfl)
  have hy := box_range (w.alloc (.cells #[.pointer (some ⟨S, 0, none⟩)] 63)) #[.int .i64 k] 3 0 _ rfl
  have hz : (w.alloc (.cells #[.pointer (some ⟨S, 0, none⟩)] 63)).heap.size = w.heap.size + 1 := by simp
  rw [hz] at hy
  have F := Lib.hid (show FirstAt _ g n c k S w.heap.size (w.heap.size + 1) from ⟨he.mono hb2, hk, hn, hx, hy, cellKeep hb2 h0⟩)
  have SL := Lib.hid (hl.mono hb2)
  have c1 := cellKeep hb2 h1
  have HB := Lib.hid hb2
  clear h1
  clear hx hy hz hb1 hb2 hb3 he h0 hl hn hk
  go_enter Tryz.func34, Tryz.ntmps34
  go_wp2_with fail
  refine (cHas1 F.out SL.out).mono ?_
  rintro _ w1 ⟨_, rfl, hb1, rfl⟩
  replace HB := Lib.hid (HB.out.le hb1)
  clear hb1
  go_wp2
  go_ret
  exact retB rfl HB.out
end Go.Proofs.YtjddelmhbafelaaGreatDoor

/-
  slices.Clone of a list of one number, and slices.Delete of its element.
-/
namespace Go.Proofs.YtjddelmhbafelaaGreatDoor
open Go.RowKit
theorem OwnSl.empty {α : Type} (e : Enc α) (ty : TypeId) (w : World) {B g : Nat} (hB : B ≤ g) (hh : w.heap[g]? = some (.cells #[] ty (0, 0))) : OwnSl e ty w B (.slice (some ⟨g, 0, none⟩) 0 0) [] :=
  ⟨by simp [Enc.all], .inr ⟨g, 0, #[], rfl, hB, hh, Nat.le_refl _, by unfold maxLen; omega, by simp, by simp [Enc.all]⟩⟩
/-- A row of the call's own with one number. -/
structure One (w : World) (B : Nat) (v : Value) (g c : Nat) (x : Int) : Prop where
  eq : v = .slice (some ⟨g, 0, none⟩) 1 c
  low : B ≤ g
  cap : 1 ≤ c
  max : c ≤ maxLen
  cell : w.cell? ⟨g, 0, none⟩ = some (.int .i64 x)
  open_ : w.frozen? ⟨g, 0, none⟩ = false
theorem OwnSl.one {w : World} {B : Nat} {v : Value} {x : Int} {ty : TypeId} (h : OwnSl encI ty w B v [x]) : ∃ g c, One w B v g c x := by
  obtain ⟨A, c, rfl, hs⟩ := h.sl
  obtain ⟨b, o, y, rfl, -, -, -, -⟩ := hs.int (i := 0) (by simp)
  have h2 : w.ownsRow B ty 1 (.slice (some ⟨b, o, none⟩) 1 c) 1 [.int .i64 x] := h
  rcases h2.2 with ⟨h', _⟩ | ⟨g', cap', cur, h', hb, _, hnc, hmx, _⟩
  · cases h'
  · cases h'
    exact ⟨_, _, rfl, hb, hnc, hmx, World.ownsRow.cellAt h2 0 (by decide), World.ownsRow.frozenAt h2 0⟩
set_option maxRecDepth 100000 in
theorem cClone1 {w : World} {A : Option Addr} {c : Nat} {x : Int} (hl : Sl encI w A 1 c [x]) : Calls Tryz.prog 36 #[.slice A 1 c] w (Ret w (fun w' v => OwnSl encI 3 w' w.heap.size v [x])) := by
  obtain ⟨b, o, y, rfl, -, -, -, -⟩ := hl.int (i := 0) (by decide)
  have HE := Lib.hid (OwnSl.empty encI 3 (w.alloc (.cells #[] 3)) (Nat.le_refl w.heap.size) (heap_alloc_new w _))
  have HL := Lib.hid (hl.mono ((Below.refl w.heap.size w).alloc (Nat.le_refl _) (.cells #[] 3)))
  have HB := Lib.hid ((Below.refl w.heap.size w).alloc (Nat.le_refl _) (.cells #[] 3))
  have hq := fun w a n c => Lib.run_eql_slice_nil (P := Tryz.prog) w 27 3 a n c 0 0 Tryz.underlying27
  clear hl
  go_enter Tryz.func36, Tryz.ntmps36
  go_wp2_with (first
  | (at_builtin; refine wpList_appS (B := w.heap.size) (l := ([] : List Int)) infI rfl rfl Tryz.underlying27 rfl rfl HE.out HL.out (by simp) (by simp) ?_; intro v1 w1 ho1 hg1 _; have HO1 := Lib.hid ho1; have HG1 := Lib.hid hg1; clear ho1 hg1)
  | fail)
  go_ret
  exact ⟨_, rfl, HB.out.grown HG1.out (by simp) (fun q hq => (HE.out.own q hq).1), HO1.out⟩
def cutI (A : Option Addr) (c k : Nat) : Option Addr := if c = k then A else A.map (·.add k)
theorem slice_toI {w : World} {A : Option Addr} {n c k : Nat} (h : k ≤ c) : (Instr.sliceAt 27 (.slice A n c) none (some (.int .i64 (k : Int))) none).run Tryz.prog w = .ok (.slice A k c) w := by
  have h1 : (0 : Int) ≤ (k : Int) := by omega
  have h2 : (k : Int) ≤ (c : Int) := by omega
  simp [go_sem, h1, h2]
theorem slice_fromI {w : World} {A : Option Addr} {n c k : Nat} (h : k ≤ n) (hc : n ≤ c) : (Instr.sliceAt 27 (.slice A n c) (some (.int .i64 (k : Int))) none none).run Tryz.prog w = .ok (.slice (cutI A c k) (n - k) (c - k)) w := by
  have h1 : (0 : Int) ≤ (k : Int) := by omega
  have h2 : (k : Int) ≤ (n : Int) := by omega
  have h3 : (n : Int) ≤ (c : Int) := by omega
  unfold cutI
  simp [go_sem, h1, h2]
section
variable {ops : List Oper} {Fs : List VT} {w0 : World} {a0 : Act} {i : Nat} {d : Option Tmp} {ty : TypeId} {pos : String} {after : Array Edge} {g : Option (Nat × Bool)}
theorem Ob.sliceToI {x y : Operand} {A : Option Addr} {n c k : Nat} (hw : Wanted ops Fs w0 a0 i ⟨d, .slice 27 x none (some y) none, ty, pos, after, g⟩) (hx : Has ops Fs w0 a0 i ⟨d, .slice 27 x none (some y) none, ty, pos, after, g⟩ x (Is (.slice A n c))) (hy : Has ops Fs w0 a0 i ⟨d, .slice 27 x none (some y) none, ty, pos, after, g⟩ y (IsI (k : Int))) (h : k ≤ c) :
    Ob Tryz.prog ops Fs w0 a0 i ⟨d, .slice 27 x none (some y) none, ty, pos, after, g⟩ (Is (.slice A k c)) :=
  Ob.stay hw fun a w cx => ⟨_, by
    have h1 : a.eval x = .slice A n c := hx a w cx
    have h2 : a.eval y = .int .i64 (k : Int) := hy a w cx
    have h3 := slice_toI (w := w) (A := A) (n := n) h
    generalize a.eval = ρ at h1 h2
    simp [execOp, h1, h2, h3], rfl⟩
theorem Ob.sliceFromI {x y : Operand} {A : Option Addr} {n c k : Nat} (hw : Wanted ops Fs w0 a0 i ⟨d, .slice 27 x (some y) none none, ty, pos, after, g⟩) (hx : Has ops Fs w0 a0 i ⟨d, .slice 27 x (some y) none none, ty, pos, after, g⟩ x (Is (.slice A n c))) (hy : Has ops Fs w0 a0 i ⟨d, .slice 27 x (some y) none none, ty, pos, after, g⟩ y (IsI (k : Int))) (h : k ≤ n) (hc : n ≤ c) :
    Ob Tryz.prog ops Fs w0 a0 i ⟨d, .slice 27 x (some y) none none, ty, pos, after, g⟩ (Is (.slice (cutI A c k) (n - k) (c - k))) :=
  Ob.stay hw fun a w cx => ⟨_, by
    have h1 : a.eval x = .slice A n c := hx a w cx
    have h2 : a.eval y = .int .i64 (k : Int) := hy a w cx
    have h3 := slice_fromI (w := w) (A := A) h hc
    generalize a.eval = ρ at h1 h2
    simp [execOp, h1, h2, h3], rfl⟩
theorem srcNone (w : World) (A : Option Addr) (c : Nat) : Src Tryz.prog 1 27 (.slice A 0 c) 0 [] w :=
  ⟨.inl ⟨_, Tryz.underlying27⟩, fun w' => by simp [Builtin.lenOf], by cases A <;> simp [Builtin.firstCells, loadCells, loadCellsFrom], by cases A <;> simp [Builtin.firstCells, loadCells, loadCellsFrom], rfl, fun u hu => by cases hu⟩
theorem Ob.appNone {x y : Operand} {A C : Option Addr} {n c m : Nat} (hw : Wanted ops Fs w0 a0 i ⟨d, .call ⟨.builtin .append, #[x, y], #[27, 27]⟩, ty, pos, after, g⟩)
    (hx : Has ops Fs w0 a0 i ⟨d, .call ⟨.builtin .append, #[x, y], #[27, 27]⟩, ty, pos, after, g⟩ x (Is (.slice A n c))) (hy : Has ops Fs w0 a0 i ⟨d, .call ⟨.builtin .append, #[x, y], #[27, 27]⟩, ty, pos, after, g⟩ y (Is (.slice C 0 m))) (h : n ≤ c) :
    Ob Tryz.prog ops Fs w0 a0 i ⟨d, .call ⟨.builtin .append, #[x, y], #[27, 27]⟩, ty, pos, after, g⟩ (Is (.slice A n c)) :=
  Ob.stay hw fun a w cx => ⟨_, by
    have h1 : a.eval x = .slice A n c := hx a w cx
    have h2 : a.eval y = .slice C 0 m := hy a w cx
    obtain ⟨inf, hi, _, hs, _⟩ := info_parts (P := Tryz.prog) (show (Tryz.prog.info? 3).map (fun i => (i.zero, i.size, i.bytes)) = some (some (.int .i64 0), 1, 8) by kernel_rfl)
    have h3 := run_append_nothing w 27 27 ty 3 inf Tryz.underlying27 hi A n c h (.slice C 0 m) (by rw [hs]; exact srcNone w C m)
    generalize a.eval = ρ at h1 h2
    simp [execOp, resolve, invoke, builtin, h1, h2, h3], rfl⟩
end
end Go.Proofs.YtjddelmhbafelaaGreatDoor

/-
  slices.Delete of the one element.
-/
namespace Go.Proofs.YtjddelmhbafelaaGreatDoor
open Go.RowKit
theorem run_clear1 {w : World} {g c : Nat} {x : Int} (h : w.cell? ⟨g, 0, none⟩ = some (.int .i64 x)) (hz : w.frozen? ⟨g, 0, none⟩ = false) (ty : TypeId) :
    (Builtin.clear_ #[27] ty #[.slice (some ⟨g, 0, none⟩) 1 c]).run Tryz.prog w = .ok (.tuple #[]) (w.setCell ⟨g, 0, none⟩ (.int .i64 0)) := by
  simp [Builtin.clear_, run_underlying Tryz.underlying27, storeCells, Builtin.zeroCells, Value.cells, go_sem, h, hz]
set_option maxRecDepth 100000 in
set_option maxHeartbeats 4000000 in
theorem cDelete1 {w : World} {B g c : Nat} {v : Value} {x : Int} (h : One w B v g c x) : Calls Tryz.prog 35 #[v, .int .i64 0, .int .i64 1] w (fun e w' => ∃ A c, e = .returned (.slice A 0 c) ∧ Below B w w') := by
  obtain ⟨rfl, hB, hc, hm, hx, hz⟩ := h
  have hc2 : (1 : Int) ≤ (c : Int) := by omega
  have CL := Lib.hid (fun w' (hb : Below w.heap.size w w') ty => run_clear1 (c := c) (cellKeep hb hx) ((hb.frozen (p := ⟨g, 0, none⟩) (World.block_lt_of_cell? w _ hx)).trans hz) ty)
  have HB := Lib.hid hB; have HC := Lib.hid hc
  have HGZ := Lib.hid (World.block_lt_of_cell? w _ hx)
  clear hx hz hB hc
  go_enter Tryz.func35, Tryz.ntmps35
  go_wp2_with fail
  refine wp_region_M mixed (by kernel_rfl) ?_
  refine MDerR.step (Ob.move Wanted.free (Has.late 7)) ?_
  refine MDerR.step (Ob.move Wanted.free Has.oldIs) ?_
  refine MDerR.step (Ob.sliceToI Wanted.free (Has.new 0 1) (Has.new 1 0) (k := 0) (by omega)) ?_
  refine MDerR.step (Ob.move Wanted.free (Has.late 7)) ?_
  refine MDerR.step (Ob.move Wanted.free Has.oldIs) ?_
  refine MDerR.step (Ob.sliceFromI Wanted.free (Has.new 3 1) (Has.new 4 0) (k := 1) (by omega) (by have := HC.out; omega)) ?_
  refine MDerR.step (Ob.appNone Wanted.free (Has.new 2 3) (Has.new 5 0) (by omega)) ?_
  refine MDerR.step (Ob.assign Wanted.free (Has.new 6 0)) ?_
  simp only [MDerR, dstsOf, List.map, EndM, List.reverse_cons, List.reverse_nil, List.nil_append, List.cons_append]
  intro wE hE
  iterate 8 (rintro _ rfl)
  simp only [Act.put, List.setIfInBounds_toArray, List.set_cons_zero, List.set_cons_succ]
  have cl := CL.out _ hE
  go_wp2
  go_ret
  exact ⟨_, _, rfl, (hE.mono (by have := HB.out; have := HGZ.out; omega)).setCell (p := ⟨g, 0, none⟩) HB.out _⟩
end Go.Proofs.YtjddelmhbafelaaGreatDoor

/-
  search.goOn where one event is left: true, and it is the order.
-/
namespace Go.Proofs.YtjddelmhbafelaaGreatDoor
open Go.RowKit
theorem cell_set {w : World} {a : Addr} {v u : Value} (h : w.cell? a = some u) : (w.setCell a v).cell? a = some v := World.cell?_setCell_same w a v h
theorem cell_far {w : World} {a b : Addr} {v u : Value} (hne : b ≠ a) (h : w.cell? a = some u) : (w.setCell b v).cell? a = some u := by rw [World.cell?_setCell_other w b a v hne]; exact h
theorem Sl.setN {α : Type} {e : Enc α} {w : World} {A : Option Addr} {n c N o : Nat} {l : List α} {u : Value} (h : Sl e w A n c l) (hn : ∀ a, A = some a → a.block ≠ N) : Sl e (w.setCell ⟨N, o, none⟩ u) A n c l :=
  ⟨h.len, h.cap, h.max, h.nil, fun i x hi => by
    obtain ⟨b, o', rfl, hlt, h1⟩ := h.cell i x hi
    have hne : b ≠ N := hn _ rfl
    exact ⟨b, o', rfl, by rw [World.size_setCell]; exact hlt, fun j v hj => cell_far (fun e => hne (congrArg Addr.block e).symm) (h1 j v hj)⟩⟩
theorem cGoOnNil {w : World} {S K o c : Nat} {A : Option Addr} (h : w.cell? ⟨S, 1, none⟩ = some (.slice A 0 c)) : Calls Tryz.prog 24 #[.pointer (some ⟨S, 0, none⟩), .pointer (some ⟨K, o, none⟩)] w (Ret w (IsB true)) := by
  go_enter Tryz.func24, Tryz.ntmps24
  go_wp2
  go_ret
  exact retB rfl (Below.refl _ _)
/-- The search's block. -/
structure SAt (w : World) (S g n c : Nat) (A : Option Addr) (ca : Nat) : Prop where
  c0 : w.cell? ⟨S, 0, none⟩ = some (.slice (some ⟨g, 0, none⟩) n c)
  c1 : w.cell? ⟨S, 1, none⟩ = some (.slice A 1 ca)
  c2 : w.cell? ⟨S, 2, none⟩ = some (.slice none 0 0)
  z1 : w.frozen? ⟨S, 1, none⟩ = false
  z2 : w.frozen? ⟨S, 2, none⟩ = false
theorem SAt.mono {w w' : World} {S g n c : Nat} {A : Option Addr} {ca : Nat} (h : SAt w S g n c A ca) (hb : Below w.heap.size w w') : SAt w' S g n c A ca :=
  ⟨cellKeep hb h.c0, cellKeep hb h.c1, cellKeep hb h.c2, (hb.frozen (p := ⟨S, 1, none⟩) (World.block_lt_of_cell? w _ h.c1)).trans h.z1, (hb.frozen (p := ⟨S, 2, none⟩) (World.block_lt_of_cell? w _ h.c2)).trans h.z2⟩
set_option maxRecDepth 100000 in
set_option maxHeartbeats 4000000 in
theorem cGoOn {w : World} {B S K o g n c ca k : Nat} {A : Option Addr} (hs : SatG w) (hK : FreshG w K o) (he : Evs w g n k) (hk : k < n) (hn : n ≤ 4096) (hS : SAt w S g n c A ca) (hl : Sl encI w A 1 ca [(k : Int)]) (hB : B ≤ S) :
    Calls Tryz.prog 24 #[.pointer (some ⟨S, 0, none⟩), .pointer (some ⟨K, o, none⟩)] w
      (fun e w' => e = .returned (.bool true) ∧ Below B w w' ∧ ∃ A2 c2, w'.cell? ⟨S, 2, none⟩ = some (.slice A2 1 c2) ∧ Sl encI w' A2 1 c2 [(k : Int)]) := by
  obtain ⟨b, o1, x, rfl, -, h1, -, cA⟩ := hl.int (i := 0) (by simp)
  cases h1
  simp only [Nat.add_zero] at cA
  have HS := Lib.hid hs; have HK := Lib.hid hK; have HE := Lib.hid he; have HN := Lib.hid hn; have SA := Lib.hid hS; have SL := Lib.hid hl; have HB := Lib.hid hB; have HLT := Lib.hid hk
  have c1 := hS.c1
  clear hs hK he hn hS hl hB
  go_enter Tryz.func24, Tryz.ntmps24
  go_wp2
  refine wp_loop_rounds 1 ?_
  rw [rounds_succ]
  clear c1
  go_wp2_with fail
  refine (cCopy HS.out HK.out).mono ?_
  rintro _ w1 ⟨_, rfl, hb1, K2, o2, rfl, hK2⟩
  have HB1 := Lib.hid hb1; have K2F := Lib.hid hK2
  clear hb1 hK2 cA
  go_wp2_with fail
  refine (cFirst (HE.out.mono HB1.out) hk HN.out (SA.out.mono HB1.out).c0 (SA.out.mono HB1.out).c1 (SL.out.mono HB1.out)).mono ?_
  rintro _ w2 ⟨_, rfl, hb2, rfl⟩
  have HB2 := Lib.hid (HB1.out.le hb2); have K2G := Lib.hid (K2F.out.mono hb2)
  have c0 := (SA.out.mono HB2.out).c0
  have r := Evs.here (HE.out.mono HB2.out) hk
  have e0 : w2.cell? ⟨g, k * 15, none⟩ = some (.int .i64 0) := r 0 _ rfl
  have e1 : w2.cell? ⟨g, k * 15 + 1, none⟩ = some (.int .i64 4) := r 1 _ rfl
  have e2 : w2.cell? ⟨g, k * 15 + 2, none⟩ = some (.string ⟨⟨[97]⟩⟩) := r 2 _ rfl
  have e3 : w2.cell? ⟨g, k * 15 + 3, none⟩ = some (.string ⟨#[]⟩) := r 3 _ rfl
  have e4 : w2.cell? ⟨g, k * 15 + 4, none⟩ = some (.string ⟨#[]⟩) := r 4 _ rfl
  have e5 : w2.cell? ⟨g, k * 15 + 5, none⟩ = some (.int .i64 0) := r 5 _ rfl
  have e6 : w2.cell? ⟨g, k * 15 + 6, none⟩ = some (.slice none 0 0) := r 6 _ rfl
  have e7 : w2.cell? ⟨g, k * 15 + 7, none⟩ = some (.int .i64 4) := r 7 _ rfl
  have e8 : w2.cell? ⟨g, k * 15 + 8, none⟩ = some (.int .i64 0) := r 8 _ rfl
  have e9 : w2.cell? ⟨g, k * 15 + 9, none⟩ = some (.int .i64 0) := r 9 _ rfl
  have e10 : w2.cell? ⟨g, k * 15 + 10, none⟩ = some (.slice none 0 0) := r 10 _ rfl
  have e11 : w2.cell? ⟨g, k * 15 + 11, none⟩ = some (.slice none 0 0) := r 11 _ rfl
  have e12 : w2.cell? ⟨g, k * 15 + 12, none⟩ = some (.int .i64 k) := r 12 _ rfl
  have e13 : w2.cell? ⟨g, k * 15 + 13, none⟩ = some (.int .i64 9000) := r 13 _ rfl
  have e14 : w2.cell? ⟨g, k * 15 + 14, none⟩ = some (.int .i64 9001) := r 14 _ rfl
  clear hb2 HB1 K2F r
  go_wp2_with fail
  refine (cFits (sat_keep HS.out HB2.out) K2G.out k 9000 9001).mono ?_
  rintro _ w3 ⟨_, rfl, hb3, rfl⟩
  have HB3 := Lib.hid (HB2.out.le hb3); have K3 := Lib.hid (K2G.out.mono hb3)
  clear hb3 HB2 K2G c0 e0 e1 e2 e3 e4 e5 e6 e7 e8 e9 e10 e11 e12 e13 e14
  have c1 := (SA.out.mono HB3.out).c1
  go_wp2_with fail
  refine (cClone1 (SL.out.mono HB3.out)).mono ?_
  rintro _ w4 ⟨v4, rfl, hb4, ho4⟩
  obtain ⟨g4, c4, h4⟩ := ho4.one
  have HB4 := Lib.hid (HB3.out.le hb4); have B34 := Lib.hid hb4; have H4 := Lib.hid h4
  clear hb4 ho4 h4 c1
  go_wp2_with fail
  refine (cDelete1 H4.out).mono ?_
  rintro _ w5 ⟨A5, c5, rfl, hb5⟩
  have B35 := Lib.hid (B34.out.trans hb5)
  have sa5 := (SA.out.mono HB3.out).mono B35.out
  have HB5 := Lib.hid (HB3.out.le B35.out)
  have c1 := sa5.c1; have z1 := sa5.z1
  have d2 : (w5.setCell ⟨S, 1, none⟩ (.slice A5 0 c5)).cell? ⟨S, 2, none⟩ = some (.slice none 0 0) := cell_far (by simp) sa5.c2
  have hlt5 := World.block_lt_of_cell? w5 _ sa5.c1
  have HLT5 := Lib.hid hlt5
  have hltw := World.block_lt_of_cell? w _ SA.out.c1
  have hx0 : Below (w5.setCell ⟨S, 1, none⟩ (.slice A5 0 c5)).heap.size (w5.setCell ⟨S, 1, none⟩ (.slice A5 0 c5)) ((w5.setCell ⟨S, 1, none⟩ (.slice A5 0 c5)).alloc (.cells #[.int .i64 (k : Int)] 3)) := (Below.refl _ _).alloc (Nat.le_refl _) _
  have D1 := Lib.hid (cellKeep hx0 (cell_set sa5.c1 : (w5.setCell ⟨S, 1, none⟩ (.slice A5 0 c5)).cell? ⟨S, 1, none⟩ = some (.slice A5 0 c5)))
  have D2 := Lib.hid (cellKeep hx0 d2)
  have Z2 := Lib.hid ((hx0.frozen (p := ⟨S, 2, none⟩) (World.block_lt_of_cell? _ _ d2)).trans ((World.frozen?_setCell _ _ _ _).trans sa5.z2))
  have HBX := Lib.hid (show Below B w ((w5.setCell ⟨S, 1, none⟩ (.slice A5 0 c5)).alloc (.cells #[.int .i64 (k : Int)] 3)) from ((HB5.out.mono (by have := HB.out; have : S < w.heap.size := hltw; omega)).setCell (p := ⟨S, 1, none⟩) HB.out _).alloc (by have := HB.out; have : S < w5.heap.size := hlt5; simp; omega) _)
  have sl1 := Sl.oneI (w5.setCell ⟨S, 1, none⟩ (.slice A5 0 c5)) (k : Int) 3
  rw [World.size_setCell] at sl1
  have SL1 := Lib.hid sl1
  clear sl1
  have HLW := Lib.hid hltw
  clear hb5 sa5 hx0 hlt5 hltw HB5
  go_wp2_with (first | (at_builtin; refine Halt.go ?_) | fail)
  unfold Halt
  refine wpList_appS (B := w5.heap.size) (v := .slice none 0 0) (l := ([] : List Int)) infI rfl rfl Tryz.underlying27 rfl rfl (OwnSl.nil_ _ _ _ _) SL1.out (by simp) (by simp) ?_
  intro v7 w7 ho7 hg7 _
  obtain ⟨g7, c7, h7⟩ := OwnSl.one (x := (k : Int)) ho7
  obtain rfl := h7.eq
  have hb7 := (Below.refl _ _).grown hg7 (Nat.le_refl _) (fun q hq => absurd hq (by simp [Value.ownBlock]))
  have f2 := cellKeep hb7 D2.out
  have zf2 := (hb7.frozen (p := ⟨S, 2, none⟩) (World.block_lt_of_cell? _ _ D2.out)).trans Z2.out
  have F1 := Lib.hid (cellKeep hb7 D1.out)
  have H7 := Lib.hid h7; have HO7 := Lib.hid ho7; have HB7 := Lib.hid hb7
  clear hb7 h7 ho7 hg7 c1 z1 d2
  simp only [Act.put, List.setIfInBounds_toArray, List.set_cons_zero, List.set_cons_succ]
  go_wp2_with fail
  have F8 := Lib.hid (cell_far (v := .slice (some ⟨g7, 0, none⟩) 1 c7) (show (⟨S, 2, none⟩ : Addr) ≠ ⟨S, 1, none⟩ by simp) F1.out)
  have G8 := Lib.hid (cell_set (v := .slice (some ⟨g7, 0, none⟩) 1 c7) f2)
  have HB8 := Lib.hid ((HBX.out.trans (HB7.out.mono (by have := HBX.out.size; have := HB.out; have := HLW.out; simp at *; omega))).setCell (p := ⟨S, 2, none⟩) HB.out (.slice (some ⟨g7, 0, none⟩) 1 c7))
  clear f2 zf2
  refine (cGoOnNil F8.out).mono ?_
  rintro _ w9 ⟨_, rfl, hb9, rfl⟩
  have HB9 := Lib.hid hb9
  clear hb9
  have HSL := Lib.hid (show Sl encI w7 (some ⟨g7, 0, none⟩) 1 c7 [(k : Int)] from by
    obtain ⟨A', c', e', hs'⟩ := HO7.out.sl
    have e2 : Value.slice (some ⟨g7, 0, none⟩) 1 c7 = .slice A' 1 c' := e'
    cases e2
    exact hs')
  go_wp2
  go_ret
  refine ⟨rfl, HB8.out.trans (HB9.out.mono ?_), _, _, cellKeep HB9.out G8.out, (Sl.setN HSL.out ?_).mono HB9.out⟩
  · have := HB8.out.size; have := HB.out; have := HLW.out; omega
  · intro a ea
    cases ea
    have h1 : S < w5.heap.size := HLT5.out
    have := H7.out.low
    simp only
    omega
end Go.Proofs.YtjddelmhbafelaaGreatDoor

/-
  linear.Search and linear.Check where one event was made.
-/
namespace Go.Proofs.YtjddelmhbafelaaGreatDoor
open Go.RowKit
def confA : Value := .agg #[.int .i64 1, .int .i64 1, .int .i64 3, .int .i64 2]
set_option maxRecDepth 100000 in
set_option maxHeartbeats 4000000 in
theorem cSearch {w : World} {g n c k : Nat} (hs : SatG w) (he : Evs w g n k) (hk : k < n) (hn : n ≤ 4096) :
    Calls Tryz.prog 17 #[.agg #[.int .i64 1, .int .i64 1, .int .i64 3, .int .i64 2], .slice (some ⟨g, 0, none⟩) n c] w (Ret w (fun w' v => ∃ A d, v = .tuple #[.slice A 1 d, .bool true, .int .i64 0] ∧ Sl encI w' A 1 d [(k : Int)])) := by
  have HS := Lib.hid hs; have HE := Lib.hid he; have HN := Lib.hid hn; have HLT := Lib.hid hk
  have hx : Below w.heap.size w (w.alloc (.cells #[.int .i64 1, .int .i64 1, .int .i64 3, .int .i64 2] 43)) := (Below.refl _ _).alloc (Nat.le_refl _) _
  have HX := Lib.hid hx
  have hr := box_range w #[.int .i64 1, .int .i64 1, .int .i64 3, .int .i64 2] 43
  have HR := Lib.hid hr
  clear hs he hn hk hx hr
  go_enter Tryz.func17, Tryz.ntmps17
  go_wp2_with fail
  refine (cOrder (c := c) (HE.out.mono HX.out) HLT.out HN.out).mono ?_
  rintro _ w1 ⟨_, rfl, hb1, A, c1, rfl, hl1⟩
  have HB1 := Lib.hid (HX.out.le hb1); have SL := Lib.hid hl1
  have r := rangeKeep HR.out hb1
  have q0 : w1.cell? ⟨w.heap.size, 0, none⟩ = some (.int .i64 1) := r 0 _ rfl
  have q1 : w1.cell? ⟨w.heap.size, 1, none⟩ = some (.int .i64 1) := r 1 _ rfl
  have q2 : w1.cell? ⟨w.heap.size, 2, none⟩ = some (.int .i64 3) := r 2 _ rfl
  have q3 : w1.cell? ⟨w.heap.size, 3, none⟩ = some (.int .i64 2) := r 3 _ rfl
  clear hb1 hl1 r
  go_wp2_with fail
  refine (cNewG (sat_keep HS.out HB1.out)).mono ?_
  rintro _ w2 ⟨_, rfl, hb2, K, o, rfl, hK⟩
  have HB2 := Lib.hid (HB1.out.le hb2); have HK := Lib.hid hK
  replace SL := Lib.hid (SL.out.mono hb2)
  clear hb2 hK q0 q1 q2 q3
  go_wp2_with fail
  refine (cSort (sat_keep HS.out HB2.out) A c1).mono ?_
  rintro _ w3 ⟨_, rfl, hb3, rfl⟩
  have HB3 := Lib.hid (HB2.out.le hb3)
  have hb4 : Below w3.heap.size w3 (w3.alloc (.cells #[.slice (some ⟨g, 0, none⟩) n c, .slice A 1 c1, .slice none 0 0] 65)) := (Below.refl _ _).alloc (Nat.le_refl _) _
  have r := box_range w3 #[.slice (some ⟨g, 0, none⟩) n c, .slice A 1 c1, .slice none 0 0] 65
  have HK4 := Lib.hid ((HK.out.mono hb3).mono hb4); have SL4 := Lib.hid ((SL.out.mono hb3).mono hb4); have HB4 := Lib.hid (HB3.out.le hb4)
  have S4 := Lib.hid (show SAt _ w3.heap.size g n c A c1 from ⟨r 0 _ rfl, r 1 _ rfl, r 2 _ rfl, frozen_of_row _ _ _ _ _ (heap_alloc_new w3 _), frozen_of_row _ _ _ _ _ (heap_alloc_new w3 _)⟩)
  clear hb3 hb4 r
  go_wp2_with fail
  refine (cGoOn (sat_keep HS.out HB4.out) HK4.out (HE.out.mono HB4.out) HLT.out HN.out S4.out SL4.out (Nat.le_refl _)).mono ?_
  rintro _ w5 ⟨rfl, hb5, A2, c2, f2, hl2⟩
  have HB5 := Lib.hid (show Below w.heap.size w w5 from HB3.out.trans (((Below.refl w3.heap.size w3).alloc (Nat.le_refl _) _ |>.trans hb5).mono HB3.out.size))
  have HL2 := Lib.hid hl2
  clear hb5 hl2
  go_wp2
  refine bodyPost_ret (v := .tuple #[.slice A2 1 c2, .bool true, .int .i64 0]) (by simp [results, Tryz.results17, go_sem]) rfl ?_
  exact ⟨_, rfl, HB5.out, _, _, rfl, HL2.out⟩
theorem cSearchLong (A : Option Addr) (n c : Nat) (w : World) (h : 4096 < n) (hn : n ≤ 9223372036854775807) : Calls Tryz.prog 17 #[.agg #[.int .i64 1, .int .i64 1, .int .i64 3, .int .i64 2], .slice A n c] w (Ret w (Is (.tuple #[.slice none 0 0, .bool false, .int .i64 5]))) := by
  have HX := Lib.hid (show Below w.heap.size w (w.alloc (.cells #[.int .i64 1, .int .i64 1, .int .i64 3, .int .i64 2] 43)) from (Below.refl _ _).alloc (Nat.le_refl _) _)
  have O := Lib.hid (fun w => cOrderLong A n c w h hn)
  clear h
  go_enter Tryz.func17, Tryz.ntmps17
  go_wp2_with fail
  refine (O.out _).mono ?_
  rintro _ w1 ⟨_, rfl, hb1, rfl⟩
  have HB := Lib.hid (HX.out.le hb1)
  clear hb1
  go_wp2
  refine bodyPost_ret (v := .tuple #[.slice none 0 0, .bool false, .int .i64 5]) (by simp [results, Tryz.results17, go_sem]) rfl ?_
  exact ⟨_, rfl, HB.out, rfl⟩
end Go.Proofs.YtjddelmhbafelaaGreatDoor

/-
  linear.Check where one event was made.
-/
namespace Go.Proofs.YtjddelmhbafelaaGreatDoor
open Go.RowKit
set_option maxRecDepth 100000 in
set_option maxHeartbeats 4000000 in
theorem cCheck {w : World} {g n c k : Nat} (hs : SatG w) (he : Evs w g n k) (hk : k < n) (hn : n ≤ 4096) :
    Calls Tryz.prog 16 #[.agg #[.int .i64 1, .int .i64 1, .int .i64 3, .int .i64 2], .slice (some ⟨g, 0, none⟩) n c] w (Ret w (Is (.tuple #[.int .i64 (-1), .int .i64 0, .int .i64 0]))) := by
  have HS := Lib.hid hs; have HE := Lib.hid he; have HN := Lib.hid hn
  have d1 : decide ((9000 : Int) < (k : Int)) = false := decide_eq_false (by omega)
  have hx : Below w.heap.size w (w.alloc (.cells #[.int .i64 1, .int .i64 1, .int .i64 3, .int .i64 2] 43)) := (Below.refl _ _).alloc (Nat.le_refl _) _
  have HX := Lib.hid hx
  have hr := box_range w #[.int .i64 1, .int .i64 1, .int .i64 3, .int .i64 2] 43
  have HR := Lib.hid hr
  clear hs he hn hx hr
  go_enter Tryz.func16, Tryz.ntmps16
  go_wp2_with fail
  refine (cOrder (c := c) (HE.out.mono HX.out) hk HN.out).mono ?_
  rintro _ w1 ⟨_, rfl, hb1, A, c1, rfl, hl1⟩
  have HB1 := Lib.hid (HX.out.le hb1); have SL := Lib.hid hl1
  have r := rangeKeep HR.out hb1
  have q0 : w1.cell? ⟨w.heap.size, 0, none⟩ = some (.int .i64 1) := r 0 _ rfl
  have q1 : w1.cell? ⟨w.heap.size, 1, none⟩ = some (.int .i64 1) := r 1 _ rfl
  have q2 : w1.cell? ⟨w.heap.size, 2, none⟩ = some (.int .i64 3) := r 2 _ rfl
  have q3 : w1.cell? ⟨w.heap.size, 3, none⟩ = some (.int .i64 2) := r 3 _ rfl
  clear hb1 hl1 r
  go_wp2_with fail
  refine (cNewG (sat_keep HS.out HB1.out)).mono ?_
  rintro _ w2 ⟨_, rfl, hb2, K, o, rfl, hK⟩
  have HB2 := Lib.hid (HB1.out.le hb2); have HK := Lib.hid hK
  have hl2 := SL.out.mono hb2
  clear hb2 hK q0 q1 q2 q3 SL
  obtain ⟨b, o1, x, rfl, -, h1, -, cA⟩ := hl2.int (i := 0) (by simp)
  cases h1
  simp only [Nat.add_zero] at cA
  clear hl2
  go_wp2
  have R := Lib.hid (Evs.here (HE.out.mono HB2.out) hk)
  have hbox := box_new w2 evZ 40 (evC k 9000 9001) rfl
  obtain ⟨W2, hW2⟩ : ∃ W2, W2 = (w2.alloc (.cells evZ 40)).setCells w2.heap.size 0 (evC k 9000 9001) := ⟨_, rfl⟩
  rw [← hW2] at hbox
  have HW2 := Lib.hid hW2
  have HB3 := Lib.hid (HB2.out.le hbox.1)
  have K3 := Lib.hid (HK.out.mono hbox.1)
  have RB := Lib.hid hbox.2
  have C12 := Lib.hid (show W2.cell? ⟨w2.heap.size, 12, none⟩ = some (.int .i64 k) from hbox.2 12 _ rfl)
  have C13 := Lib.hid (show W2.cell? ⟨w2.heap.size, 13, none⟩ = some (.int .i64 9000) from hbox.2 13 _ rfl)
  have C14 := Lib.hid (show W2.cell? ⟨w2.heap.size, 14, none⟩ = some (.int .i64 9001) from hbox.2 14 _ rfl)
  clear hbox hW2
  refine wp_loop_rounds 2 ?_
  rw [rounds_succ]
  go_wp2_with (first
    | (refine wpList_load_mid rfl 40 _ rfl _ _ rfl _ _ R.out Tryz.underlying40 rfl (show (Tryz.prog.info? 40).map (·.size) = some 15 by kernel_rfl) ?_; simp only [evC, Act.put, List.setIfInBounds_toArray, List.set_cons_zero, List.set_cons_succ])
    | (refine wpList_store_mid rfl 40 _ _ rfl w2.heap.size 0 (evA k 9000 9001) rfl rfl (there_new w2 _ _) (show (Tryz.prog.info? 40).map (·.size) = some 15 by kernel_rfl) (ev_one _ _ _) ?_;
       simp only [Act.put, List.setIfInBounds_toArray, List.set_cons_zero, List.set_cons_succ];
       refine cast_world HW2.out ?_; have x12 := C12.out; have x13 := C13.out; have x14 := C14.out)
    | fail)
  refine wp_region_M mixed (by kernel_rfl) ?_
  refine MDerR.step (Ob.move Wanted.free Has.oldIs) ?_
  refine MDerR.step (Ob.binV Wanted.free (Has.new 0 0) (Has.cst _) (fun w1 => int_gtr false (by simp))) ?_
  refine MDerR.step (Ob.move Wanted.free (Has.new 1 0)) ?_
  refine MDerR.step (Ob.off 2 0) ?_
  refine MDerR.step (Ob.off 2 1) ?_
  refine MDerR.step (Ob.off 2 2) ?_
  refine MDerR.step (Ob.off 2 3) ?_
  refine MDerR.step (Ob.off 2 4) ?_
  refine MDerR.step (Ob.off 2 5) ?_
  refine MDerR.step (Ob.off 2 6) ?_
  refine MDerR.step (Ob.off 2 7) ?_
  refine MDerR.step (Ob.off 2 8) ?_
  refine MDerR.step (Ob.off 2 9) ?_
  refine MDerR.step (Ob.off 2 10) ?_
  refine MDerR.step (Ob.off 2 11) ?_
  refine MDerR.step (Ob.pickF Wanted.free (Has.new 2 12) (Has.cst _)) ?_
  refine MDerR.step (Ob.assign Wanted.free (Has.new 15 0)) ?_
  simp only [MDerR, dstsOf, List.map, EndM, List.reverse_cons, List.reverse_nil, List.nil_append, List.cons_append]
  intro wE hE
  iterate 17 (rintro _ rfl)
  simp only [Act.put, List.setIfInBounds_toArray, List.set_cons_zero, List.set_cons_succ]
  have R2 := Lib.hid (rangeKeep RB.out hE)
  have HB4 := Lib.hid (HB3.out.le hE)
  have K4 := Lib.hid (K3.out.mono hE)
  clear x12 x13 x14
  go_wp2_with (first
  | (refine wpList_load_mid rfl 40 _ rfl _ _ rfl _ _ R2.out Tryz.underlying40 rfl (show (Tryz.prog.info? 40).map (·.size) = some 15 by kernel_rfl) ?_; simp only [evC, Act.put, List.setIfInBounds_toArray, List.set_cons_zero, List.set_cons_succ])
  | fail)
  refine (cFits (sat_keep HS.out HB4.out) K4.out k 9000 9001).mono ?_
  rintro _ w5 ⟨_, rfl, hb5, rfl⟩
  have HB5 := Lib.hid (HB4.out.le hb5)
  clear hb5
  go_wp2
  rw [rounds_succ]
  go_wp2
  refine bodyPost_ret (v := .tuple #[.int .i64 (-1), .int .i64 0, .int .i64 0]) (by simp [results, Tryz.results16, go_sem]) rfl ?_
  exact ⟨_, rfl, HB5.out, rfl⟩
theorem cCheckLong (A : Option Addr) (n c : Nat) (w : World) (h : 4096 < n) (hn : n ≤ 9223372036854775807) : Calls Tryz.prog 16 #[.agg #[.int .i64 1, .int .i64 1, .int .i64 3, .int .i64 2], .slice A n c] w (Ret w (Is (.tuple #[.int .i64 0, .int .i64 0, .int .i64 5]))) := by
  have HX := Lib.hid (show Below w.heap.size w (w.alloc (.cells #[.int .i64 1, .int .i64 1, .int .i64 3, .int .i64 2] 43)) from (Below.refl _ _).alloc (Nat.le_refl _) _)
  have O := Lib.hid (fun w => cOrderLong A n c w h hn)
  clear h
  go_enter Tryz.func16, Tryz.ntmps16
  go_wp2_with fail
  refine (O.out _).mono ?_
  rintro _ w1 ⟨_, rfl, hb1, rfl⟩
  have HB := Lib.hid (HX.out.le hb1)
  clear hb1
  go_wp2
  refine bodyPost_ret (v := .tuple #[.int .i64 0, .int .i64 0, .int .i64 5]) (by simp [results, Tryz.results16, go_sem]) rfl ?_
  exact ⟨_, rfl, HB.out, rfl⟩
end Go.Proofs.YtjddelmhbafelaaGreatDoor

/-
  The law's questions: orders, checks, finds.
-/
namespace Go.Proofs.YtjddelmhbafelaaGreatDoor
open Go.RowKit
theorem lOrders {w : World} {g n c k : Nat} {A : Option Addr} {d : Nat} (he : Evs w g n k) (hk : k < n) (hn : n ≤ 4096) (hl : Sl encI w A 1 d [(k : Int)]) :
    Calls Tryz.prog 7 #[.slice (some ⟨g, 0, none⟩) n c, .int .i64 0, .slice A 1 d] w (Ret w (IsB true)) := by
  have C := Lib.hid (cOrder (c := c) he hk hn); have SL := Lib.hid hl
  clear he hk hn hl
  go_enter Tryz.func7, Tryz.ntmps7
  go_wp2_with fail
  refine C.out.mono ?_
  rintro _ w1 ⟨_, rfl, hb1, A1, c1, rfl, hl1⟩
  have HB := Lib.hid hb1
  have I := Lib.hid (rInts _ _ _ _ _ _ _ _ _ hl1 (SL.out.mono hb1))
  clear hb1 hl1
  go_wp2_with fail
  refine I.out.mono ?_
  rintro _ w2 ⟨_, rfl, hb2, rfl⟩
  have HB2 := Lib.hid (HB.out.le hb2)
  clear hb2
  simp only [decide_true]
  go_wp2
  go_ret
  exact retB rfl HB2.out
theorem lOrdersLong (A : Option Addr) (n c : Nat) (w : World) (h : 4096 < n) (hn : n ≤ 9223372036854775807) :
    Calls Tryz.prog 7 #[.slice A n c, .int .i64 5, .slice none 0 0] w (Ret w (IsB true)) := by
  have C := Lib.hid (cOrderLong A n c w h hn)
  clear h
  go_enter Tryz.func7, Tryz.ntmps7
  go_wp2_with fail
  refine C.out.mono ?_
  rintro _ w1 ⟨_, rfl, hb1, rfl⟩
  have HB := Lib.hid hb1
  have I := Lib.hid (rInts none none 0 0 0 0 [] [] w1 (Sl.nil_ encI w1) (Sl.nil_ encI w1))
  clear hb1
  go_wp2_with fail
  refine I.out.mono ?_
  rintro _ w2 ⟨_, rfl, hb2, rfl⟩
  have HB2 := Lib.hid (HB.out.le hb2)
  clear hb2
  simp only [decide_true]
  go_wp2
  go_ret
  exact retB rfl HB2.out
theorem lChecks {w : World} {g n c k : Nat} (hs : SatG w) (he : Evs w g n k) (hk : k < n) (hn : n ≤ 4096) :
    Calls Tryz.prog 11 #[.agg #[.int .i64 1, .int .i64 1, .int .i64 3, .int .i64 2], .slice (some ⟨g, 0, none⟩) n c, .int .i64 (-1), .int .i64 0, .int .i64 0] w (Ret w (IsB true)) := by
  have HX := Lib.hid (show Below w.heap.size w (w.alloc (.cells #[.int .i64 1, .int .i64 1, .int .i64 3, .int .i64 2] 43)) from (Below.refl _ _).alloc (Nat.le_refl _) _)
  have C := Lib.hid (cCheck (c := c) (sat_keep hs HX.out) (he.mono HX.out) hk hn)
  clear hs he hk hn
  go_enter Tryz.func11, Tryz.ntmps11
  go_wp2_with fail
  refine C.out.mono ?_
  rintro _ w1 ⟨_, rfl, hb1, rfl⟩
  have HB := Lib.hid (HX.out.le hb1)
  clear hb1
  go_wp2
  go_ret
  exact retB rfl HB.out
theorem lChecksLong (A : Option Addr) (n c : Nat) (w : World) (h : 4096 < n) (hn : n ≤ 9223372036854775807) :
    Calls Tryz.prog 11 #[.agg #[.int .i64 1, .int .i64 1, .int .i64 3, .int .i64 2], .slice A n c, .int .i64 0, .int .i64 0, .int .i64 5] w (Ret w (IsB true)) := by
  have HX := Lib.hid (show Below w.heap.size w (w.alloc (.cells #[.int .i64 1, .int .i64 1, .int .i64 3, .int .i64 2] 43)) from (Below.refl _ _).alloc (Nat.le_refl _) _)
  have C := Lib.hid (fun w => cCheckLong A n c w h hn)
  clear h
  go_enter Tryz.func11, Tryz.ntmps11
  go_wp2_with fail
  refine (C.out _).mono ?_
  rintro _ w1 ⟨_, rfl, hb1, rfl⟩
  have HB := Lib.hid (HX.out.le hb1)
  clear hb1
  go_wp2
  go_ret
  exact retB rfl HB.out
theorem lFinds {w : World} {g n c k : Nat} {A : Option Addr} {d : Nat} (hs : SatG w) (he : Evs w g n k) (hk : k < n) (hn : n ≤ 4096) (hl : Sl encI w A 1 d [(k : Int)]) :
    Calls Tryz.prog 12 #[.agg #[.int .i64 1, .int .i64 1, .int .i64 3, .int .i64 2], .slice (some ⟨g, 0, none⟩) n c, .bool true, .int .i64 0, .slice A 1 d] w (Ret w (IsB true)) := by
  have HX := Lib.hid (show Below w.heap.size w (w.alloc (.cells #[.int .i64 1, .int .i64 1, .int .i64 3, .int .i64 2] 43)) from (Below.refl _ _).alloc (Nat.le_refl _) _)
  have C := Lib.hid (cSearch (c := c) (sat_keep hs HX.out) (he.mono HX.out) hk hn); have SL := Lib.hid hl
  clear hs he hk hn hl
  go_enter Tryz.func12, Tryz.ntmps12
  go_wp2_with fail
  refine C.out.mono ?_
  rintro _ w1 ⟨_, rfl, hb1, A1, c1, rfl, hl1⟩
  have HB := Lib.hid (HX.out.le hb1)
  have I := Lib.hid (rInts _ _ _ _ _ _ _ _ _ hl1 (SL.out.mono (HX.out.le hb1)))
  clear hb1 hl1
  go_wp2_with fail
  refine I.out.mono ?_
  rintro _ w2 ⟨_, rfl, hb2, rfl⟩
  have HB2 := Lib.hid (HB.out.le hb2)
  clear hb2
  simp only [decide_true]
  go_wp2
  go_ret
  exact retB rfl HB2.out
theorem lFindsLong (A : Option Addr) (n c : Nat) (w : World) (h : 4096 < n) (hn : n ≤ 9223372036854775807) :
    Calls Tryz.prog 12 #[.agg #[.int .i64 1, .int .i64 1, .int .i64 3, .int .i64 2], .slice A n c, .bool false, .int .i64 5, .slice none 0 0] w (Ret w (IsB true)) := by
  have HX := Lib.hid (show Below w.heap.size w (w.alloc (.cells #[.int .i64 1, .int .i64 1, .int .i64 3, .int .i64 2] 43)) from (Below.refl _ _).alloc (Nat.le_refl _) _)
  have C := Lib.hid (fun w => cSearchLong A n c w h hn)
  clear h
  go_enter Tryz.func12, Tryz.ntmps12
  go_wp2_with fail
  refine (C.out _).mono ?_
  rintro _ w1 ⟨_, rfl, hb1, rfl⟩
  have HB := Lib.hid (HX.out.le hb1)
  have I := Lib.hid (rInts none none 0 0 0 0 [] [] w1 (Sl.nil_ encI w1) (Sl.nil_ encI w1))
  clear hb1
  go_wp2_with fail
  refine I.out.mono ?_
  rintro _ w2 ⟨_, rfl, hb2, rfl⟩
  have HB2 := Lib.hid (HB.out.le hb2)
  clear hb2
  simp only [decide_true]
  go_wp2
  go_ret
  exact retB rfl HB2.out
theorem lGet (i m a : Int) (w : World) : Calls Tryz.prog 9 #[.int .i64 i, .int .i64 m, .int .i64 a] w (Ret w (Is (.agg (evA i m a)))) := by
  go_enter Tryz.func9, Tryz.ntmps9
  go_wp2
  refine bodyPost_ret (v := .agg (evA i m a)) (by simp [results, Tryz.results9, go_sem, evA]) rfl ?_
  exact ⟨_, rfl, by go_grown, rfl⟩
end Go.Proofs.YtjddelmhbafelaaGreatDoor

/-
  LinearLongs: of any numbers, over the package variables as the program's text lays them, the law returns true.
-/
namespace Go.Proofs.YtjddelmhbafelaaGreatDoor
open Go.RowKit
theorem lGiven (w : World) : Calls Tryz.prog 10 #[] w (Ret w (Is (.agg #[.int .i64 1, .int .i64 1, .int .i64 3, .int .i64 2]))) := by
  go_enter Tryz.func10, Tryz.ntmps10
  go_wp2
  refine bodyPost_ret (v := .agg #[.int .i64 1, .int .i64 1, .int .i64 3, .int .i64 2]) (by simp [results, Tryz.results10, go_sem]) rfl ?_
  exact ⟨_, rfl, by go_grown, rfl⟩
theorem info_ev : (Tryz.prog.info? 40).map (fun i => (i.size, (i.zero.map Value.cells), decide (i.bytes ≤ 1000))) = some (15, some evZ, true) := by kernel_rfl
theorem wpList_makeE {P : Program} (w : World) {ops : Array Oper} {rest : List Oper} {o : Oper} {a : Act} {Q : Exit → Act → World → Prop}
    (hg : o.guard = none) (l c : Operand) (hop : o.op = Op.makeSlice 22 l c) (hP : P = Tryz.prog) (L : Int) (n : Nat) (hl : a.eval l = .int .i64 L) (hc : a.eval c = .int .i64 L) (hL : L = (n : Int)) (hn : n ≤ 1000000)
    (hK : wpList P ops Q rest (a.put o.dst (.slice (some ⟨w.heap.size, 0, none⟩) n n)) (w.alloc (.cells (madeCells evZ (n * 15)) 40))) :
    wpList P ops Q (o :: rest) a w := by
  subst hP
  subst hL
  refine wpList_plain hg fun K hK' => ?_
  obtain ⟨i, hi, hzz⟩ := Option.map_eq_some_iff.1 info_ev
  simp only [Prod.mk.injEq] at hzz
  obtain ⟨h1, h2, h3⟩ := hzz
  obtain ⟨z, hz, hz2⟩ := Option.map_eq_some_iff.1 h2
  have h4 : i.bytes ≤ 1000 := of_decide_eq_true h3
  have h5 : i.bytes * n ≤ 1000 * 1000000 := Nat.mul_le_mul h4 hn
  have hb' : (i.bytes : Int) * (n : Int) ≤ 281474976710656 := by
    have h : ((i.bytes * n : Nat) : Int) ≤ 281474976710656 := by omega
    rwa [Int.natCast_mul] at h
  have hrun := run_make (P := Tryz.prog) w 22 40 i z Tryz.underlying22 hi hz .i64 .i64 n n (by omega) (Int.le_refl _) hb' (by omega)
  simp only [Int.toNat_natCast, h1, hz2] at hrun
  unfold Oper.wp
  simp [execOp, hop, hl, hc, hrun, Result.andThen]
  exact hK' _ _ hK
/-- The first j events are filled. -/
def FillRel (w : World) (g n : Nat) (i : Value) (wr : World) : Prop :=
  ∃ j : Nat, i = .int .i64 j ∧ j ≤ n ∧ Below w.heap.size w wr ∧ Arr wr g n 15 (fun q => if q < j then evC q (-1) (-1) else evZ.toList)
theorem Arr.putE {w0 w : World} {g n : Nat} {F : Nat → List Value} (h : Arr w g n 15 F) (hg : w0.heap.size ≤ g) (hb : Below w0.heap.size w0 w) {i : Nat} (hi : i < n) (q m a : Int) :
    Arr (w.setCells g (i * 15) (evC q m a)) g n 15 (fun j => if j = i then evC q m a else F j) ∧ Below w0.heap.size w0 (w.setCells g (i * 15) (evC q m a)) :=
  ⟨h.store hi rfl, belowCells hg _ _ _ hb⟩
set_option maxRecDepth 100000 in
set_option maxHeartbeats 4000000 in
theorem lawLongs (more at_ : Int) (w : World) (ha : 0 ≤ at_ ∧ at_ ≤ 65535) (hs : V.Sat 400 V.still (V.lk G0) w ∧ V.WF 400 (V.lk G0) 400) :
    Calls Tryz.prog 4 #[.int .i64 more, .int .u16 at_] w (Ret w (IsB true)) := by
  have HS := Lib.hid hs
  clear hs
  by_cases h1 : more < -2
  · have d1 : decide (more < -2) = true := decide_eq_true h1
    clear ha h1
    go_enter Tryz.func4, Tryz.ntmps4
    go_wp2_with fail
    refine (known_true HS.out).mono ?_
    rintro _ w9 ⟨_, rfl, hb9, rfl⟩
    go_wp2
    go_ret
    exact retB rfl hb9
  by_cases h2 : 2 < more
  · have d1 : decide (more < -2) = false := decide_eq_false h1
    have d2 : decide (2 < more) = true := decide_eq_true h2
    clear ha h1 h2
    go_enter Tryz.func4, Tryz.ntmps4
    go_wp2_with fail
    refine (known_true HS.out).mono ?_
    rintro _ w9 ⟨_, rfl, hb9, rfl⟩
    go_wp2
    go_ret
    exact retB rfl hb9
  have d1 : decide (more < -2) = false := decide_eq_false h1
  have d2 : decide (2 < more) = false := decide_eq_false h2
  obtain ⟨n, hn⟩ : ∃ n : Nat, 4096 + more = (n : Int) := ⟨(4096 + more).toNat, by omega⟩
  have WR := Lib.hid (show wrap64 (4096 + more) = (n : Int) by unfold wrap64; omega)
  have HN := Lib.hid hn; have HA := Lib.hid ha; have H1 := Lib.hid h1; have H2 := Lib.hid h2
  clear hn ha h1 h2
  go_enter Tryz.func4, Tryz.ntmps4
  go_wp2_with (first | (at_make; refine Halt.go ?_) | fail)
  unfold Halt
  have hn1 : n ≤ 4098 ∧ 4094 ≤ n := by
    have h3 := of_decide_eq_false d1; have h4 := of_decide_eq_false d2; have := HN.out
    omega
  have HN1 := Lib.hid hn1
  have HBG : n ≤ 9223372036854775807 := by omega
  clear hn1 d1 d2
  refine wpList_makeE w rfl _ _ rfl rfl _ n rfl rfl WR.out (by have := HN1.out; omega) ?_
  simp only [Act.put, List.setIfInBounds_toArray, List.set_cons_zero, List.set_cons_succ]
  have arr := Arr.made w evZ n 40 (by decide)
  have hb0 : Below w.heap.size w (w.alloc (.cells (madeCells evZ (n * 15)) 40)) := (Below.refl _ _).alloc (Nat.le_refl _) _
  have arr : Arr (w.alloc (.cells (madeCells evZ (n * 15)) 40)) w.heap.size n 15 (fun _ => evZ.toList) := arr
  generalize w.alloc (.cells (madeCells evZ (n * 15)) 40) = W0 at *
  have ARR := Lib.hid arr; have HB := Lib.hid hb0
  clear arr hb0
  go_wp2
  go_loopw [6] (fun i wr => FillRel w w.heap.size n i wr) (fun i _ => n - (intOf i).toNat)
  case atStart => exact ⟨0, rfl, Nat.zero_le _, HB.out, ARR.out.congr fun i _ => by simp⟩
  case round =>
    clear ARR HB
    obtain ⟨k, rfl, hk, hb, arr⟩ := hrel
    have ARR := Lib.hid arr; have HB := Lib.hid hb
    clear arr hb
    by_cases hlt : k < n
    · have HLT := Lib.hid hlt
      go_wp2_with fail
      refine (lGet k (-1) (-1) _).mono ?_
      rintro _ w2 ⟨_, rfl, hb2, rfl⟩
      replace ARR := Lib.hid (ARR.out.mono hb2); replace HB := Lib.hid (HB.out.le hb2)
      clear hb2
      have HP := Lib.hid (ARR.out.putE (Nat.le_refl _) HB.out hlt k (-1) (-1))
      obtain ⟨W2, hW2⟩ : ∃ W2, W2 = w2.setCells w.heap.size (k * 15) (evC k (-1) (-1)) := ⟨_, rfl⟩
      rw [← hW2] at HP
      have HW2 := Lib.hid hW2
      clear hW2
      go_wp2_with (first
        | (refine wpList_store_mid rfl 40 _ _ rfl w.heap.size (k * 15) (evA k (-1) (-1)) rfl rfl (ARR.out.part HLT.out) (show (Tryz.prog.info? 40).map (·.size) = some 15 by kernel_rfl) (ev_one _ _ _) ?_
           simp only [Act.put, List.setIfInBounds_toArray, List.set_cons_zero, List.set_cons_succ]
           refine cast_world HW2.out ?_)
        | fail)
      go_roundw
      case rel => exact ⟨k + 1, by simp, HLT.out, HP.out.2, HP.out.1.congr fun i _ => by
        by_cases e : i = k
        · simp [e]
        · have : (i < k + 1) = (i < k) := by simp; omega
          simp [e, this]⟩
      case measure => simp [intOf]; omega
    · have hkn : k = n := by omega
      subst hkn
      clear hk hlt
      replace ARR := Lib.hid (ARR.out.congr (k := fun q => evC q (-1) (-1)) fun i hi => by simp [hi])
      obtain ⟨a, rfl⟩ : ∃ a : Nat, at_ = (a : Int) := ⟨at_.toNat, by have := HA.out; omega⟩
      have hkn : 0 < k := by have := HN1.out; omega
      have hk0 : ¬ k = 0 := by omega
      have hk1 : ((k : Int) == 0) = false := by simp; omega
      obtain ⟨m, hm⟩ : ∃ m, m = a % k := ⟨_, rfl⟩
      have hmk : m < k := by rw [hm]; exact Nat.mod_lt _ hkn
      have hwm : (wrap64 (a : Int)).tmod (k : Int) = (m : Int) := by
        have e : wrap64 (a : Int) = a := by have := HA.out; unfold wrap64; omega
        rw [e, hm]; rfl
      clear hm
      have HM := Lib.hid hmk
      go_wp2_with fail
      refine (lGet m 9000 9001 _).mono ?_
      rintro _ w2 ⟨_, rfl, hb2, rfl⟩
      replace ARR := Lib.hid (ARR.out.mono hb2); replace HB := Lib.hid (HB.out.le hb2)
      clear hb2
      have HP := Lib.hid (ARR.out.putE (Nat.le_refl _) HB.out HM.out m 9000 9001)
      obtain ⟨W2, hW2⟩ : ∃ W2, W2 = w2.setCells w.heap.size (m * 15) (evC m 9000 9001) := ⟨_, rfl⟩
      rw [← hW2] at HP
      have HW2 := Lib.hid hW2
      clear hW2
      go_wp2_with (first
        | (refine wpList_store_mid rfl 40 _ _ rfl w.heap.size (m * 15) (evA m 9000 9001) rfl rfl (ARR.out.part HM.out) (show (Tryz.prog.info? 40).map (·.size) = some 15 by kernel_rfl) (ev_one _ _ _) ?_
           simp only [Act.put, List.setIfInBounds_toArray, List.set_cons_zero, List.set_cons_succ]
           refine cast_world HW2.out ?_)
        | fail)
      have EV := Lib.hid (show Evs W2 w.heap.size k m from HP.out.1.congr fun q hq => by
        by_cases e : q = m
        · simp [e, mOf, aOf]
        · simp [e, mOf, aOf])
      replace HB := Lib.hid HP.out.2
      clear ARR HP
      refine (lGiven _).mono ?_
      rintro _ w3 ⟨_, rfl, hb3, rfl⟩
      have hx : Below w3.heap.size w3 (w3.alloc (.cells #[.int .i64 1, .int .i64 1, .int .i64 3, .int .i64 2] 43)) := (Below.refl _ _).alloc (Nat.le_refl _) _
      have RG := Lib.hid (box_range w3 #[.int .i64 1, .int .i64 1, .int .i64 3, .int .i64 2] 43)
      replace EV := Lib.hid ((EV.out.mono hb3).mono hx); replace HB := Lib.hid ((HB.out.le hb3).le hx)
      clear hb3 hx
      by_cases hmo : 0 < more
      · have d3 : decide (0 < more) = true := decide_eq_true hmo
        have L9 := Lib.hid (show 4096 < k by have := HN.out; omega)
        have KB := Lib.hid (show k ≤ 9223372036854775807 by have := HN1.out; omega)
        clear hmo
        go_wp2_with fail
        refine (lOrdersLong _ _ _ _ L9.out KB.out).mono ?_
        rintro _ w4 ⟨_, rfl, hb4, rfl⟩
        replace HB := Lib.hid (HB.out.le hb4); replace RG := Lib.hid (rangeKeep RG.out hb4)
        clear hb4
        have q0 : w4.cell? ⟨w3.heap.size, 0, none⟩ = some (.int .i64 1) := RG.out 0 _ rfl
        have q1 : w4.cell? ⟨w3.heap.size, 1, none⟩ = some (.int .i64 1) := RG.out 1 _ rfl
        have q2 : w4.cell? ⟨w3.heap.size, 2, none⟩ = some (.int .i64 3) := RG.out 2 _ rfl
        have q3 : w4.cell? ⟨w3.heap.size, 3, none⟩ = some (.int .i64 2) := RG.out 3 _ rfl
        go_wp2_with fail
        refine (lChecksLong _ _ _ _ L9.out KB.out).mono ?_
        rintro _ w5 ⟨_, rfl, hb5, rfl⟩
        replace HB := Lib.hid (HB.out.le hb5); replace RG := Lib.hid (rangeKeep RG.out hb5)
        clear hb5 q0 q1 q2 q3
        have q0 : w5.cell? ⟨w3.heap.size, 0, none⟩ = some (.int .i64 1) := RG.out 0 _ rfl
        have q1 : w5.cell? ⟨w3.heap.size, 1, none⟩ = some (.int .i64 1) := RG.out 1 _ rfl
        have q2 : w5.cell? ⟨w3.heap.size, 2, none⟩ = some (.int .i64 3) := RG.out 2 _ rfl
        have q3 : w5.cell? ⟨w3.heap.size, 3, none⟩ = some (.int .i64 2) := RG.out 3 _ rfl
        go_wp2_with fail
        refine (lFindsLong _ _ _ _ L9.out KB.out).mono ?_
        rintro _ w6 ⟨_, rfl, hb6, rfl⟩
        replace HB := Lib.hid (HB.out.le hb6)
        clear hb6 q0 q1 q2 q3
        go_wp2_with fail
        refine (known_true (sat_keep HS.out HB.out)).mono ?_
        rintro _ w9 ⟨_, rfl, hb9, rfl⟩
        have HB9 := Lib.hid (HB.out.le hb9)
        clear hb9
        go_wp2
        go_ret
        exact retB rfl HB9.out
      · have d3 : decide (0 < more) = false := decide_eq_false hmo
        have L9 := Lib.hid (show k ≤ 4096 by have := HN.out; omega)
        clear hmo
        have hx4 : Below (w3.alloc (.cells #[.int .i64 1, .int .i64 1, .int .i64 3, .int .i64 2] 43)).heap.size (w3.alloc (.cells #[.int .i64 1, .int .i64 1, .int .i64 3, .int .i64 2] 43)) ((w3.alloc (.cells #[.int .i64 1, .int .i64 1, .int .i64 3, .int .i64 2] 43)).alloc (.cells #[.int .i64 (m : Int)] 3)) := (Below.refl _ _).alloc (Nat.le_refl _) _
        have S1 := Lib.hid (Sl.oneI (w3.alloc (.cells #[.int .i64 1, .int .i64 1, .int .i64 3, .int .i64 2] 43)) (m : Int) 3)
        replace EV := Lib.hid (EV.out.mono hx4); replace HB := Lib.hid (HB.out.le hx4); replace RG := Lib.hid (rangeKeep RG.out hx4)
        clear hx4
        have hz : (w3.alloc (.cells #[.int .i64 1, .int .i64 1, .int .i64 3, .int .i64 2] 43)).heap.size = w3.heap.size + 1 := by simp
        rw [hz] at S1
        clear hz
        go_wp2_with fail
        refine (lOrders EV.out HM.out L9.out S1.out).mono ?_
        rintro _ w4 ⟨_, rfl, hb4, rfl⟩
        replace HB := Lib.hid (HB.out.le hb4); replace RG := Lib.hid (rangeKeep RG.out hb4); replace EV := Lib.hid (EV.out.mono hb4)
        clear hb4
        have q0 : w4.cell? ⟨w3.heap.size, 0, none⟩ = some (.int .i64 1) := RG.out 0 _ rfl
        have q1 : w4.cell? ⟨w3.heap.size, 1, none⟩ = some (.int .i64 1) := RG.out 1 _ rfl
        have q2 : w4.cell? ⟨w3.heap.size, 2, none⟩ = some (.int .i64 3) := RG.out 2 _ rfl
        have q3 : w4.cell? ⟨w3.heap.size, 3, none⟩ = some (.int .i64 2) := RG.out 3 _ rfl
        go_wp2_with fail
        refine (lChecks (sat_keep HS.out HB.out) EV.out HM.out L9.out).mono ?_
        rintro _ w5 ⟨_, rfl, hb5, rfl⟩
        replace HB := Lib.hid (HB.out.le hb5); replace RG := Lib.hid (rangeKeep RG.out hb5); replace EV := Lib.hid (EV.out.mono hb5)
        clear hb5 q0 q1 q2 q3
        have q0 : w5.cell? ⟨w3.heap.size, 0, none⟩ = some (.int .i64 1) := RG.out 0 _ rfl
        have q1 : w5.cell? ⟨w3.heap.size, 1, none⟩ = some (.int .i64 1) := RG.out 1 _ rfl
        have q2 : w5.cell? ⟨w3.heap.size, 2, none⟩ = some (.int .i64 3) := RG.out 2 _ rfl
        have q3 : w5.cell? ⟨w3.heap.size, 3, none⟩ = some (.int .i64 2) := RG.out 3 _ rfl
        have hx6 : Below w5.heap.size w5 (w5.alloc (.cells #[.int .i64 (m : Int)] 3)) := (Below.refl _ _).alloc (Nat.le_refl _) _
        have S6 := Lib.hid (Sl.oneI w5 (m : Int) 3)
        replace HB := Lib.hid (HB.out.le hx6); replace EV := Lib.hid (EV.out.mono hx6)
        clear hx6
        go_wp2_with fail
        refine (lFinds (sat_keep HS.out HB.out) EV.out HM.out L9.out S6.out).mono ?_
        rintro _ w6 ⟨_, rfl, hb6, rfl⟩
        replace HB := Lib.hid (HB.out.le hb6)
        clear hb6 q0 q1 q2 q3
        go_wp2_with fail
        refine (known_true (sat_keep HS.out HB.out)).mono ?_
        rintro _ w9 ⟨_, rfl, hb9, rfl⟩
        have HB9 := Lib.hid (HB.out.le hb9)
        clear hb9
        go_wp2
        go_ret
        exact retB rfl HB9.out
end Go.Proofs.YtjddelmhbafelaaGreatDoor

/-
  From a law's walk to its row: what was there stays.
-/
namespace Go.Proofs.YtjddelmhbafelaaGreatDoor
open Go.ChangeShapes Go.WideShapes Go.ChangeAt Go.RowKit Go.Deep Go.Joins

section
variable {H : Type} {enc : TypeId × Value → H} {P : Program}
/-- Arguments that were read whole are read alike in a world in which all that was there is as it was. -/
theorem all_stay (hl : laidOutB P = true) {W W' : World} {sp' : Nat → Bool} : ∀ {ts : List TypeId} {vs : List Value} {ds : List (DataW H)} {ps : List MemPlace}, (∀ t ∈ ts, P.readableRec t = true ∧ t < P.types.size) →
    DataW.TrodAll enc P W 0 (fun _ => true) true ts vs ds ps → (∀ p ∈ ps, W.sameAt W' p) → (∀ p ∈ ps, sp' p.block = true) → DataW.TrodAll enc P W' 0 sp' true ts vs ds ps
  | [], _, _, _, _, h, _, _ => by
    obtain ⟨rfl, rfl, rfl⟩ := trodAll_nil h
    rfl
  | t :: ts, _, _, _, hr, h, hs, hp => by
    obtain ⟨v, vs, d, ds, a, b, rfl, rfl, rfl, h1, h2⟩ := trodAll_cons h
    have ht := hr t List.mem_cons_self
    exact ⟨a, b, Go.WideElems.Trod_stays hl ht.1 ht.2 h1 (fun p h => hs p (List.mem_append_left _ h)) (fun p h => hp p (List.mem_append_left _ h)),
      all_stay hl (fun t h => hr t (List.mem_cons_of_mem _ h)) h2 (fun p h => hs p (List.mem_append_right _ h)) (fun p h => hp p (List.mem_append_right _ h)), rfl⟩
/-- The row's last step for a law: it returned true, and nothing that was there has turned. -/
theorem law_post {f : Func} {s : ChangeSpec} {apart fresh handsOn again : Bool} {W W' : World} {args : Array Value} {ds : List (DataW H)} {before : List MemPlace} {tb : TypeId} (hl : laidOutB P = true)
    (hr0 : f.params.toList.all (fun t => P.readableRec t && decide (t < P.types.size)) = true) (hT : f.resultTypes = #[tb]) (hbt : P.underlying tb = some .bool) (hsv : s.vars = []) (hfn : s.fn H ds = { results := [.lit (.bool true)], args := ds })
    (hW : DataW.Whole enc P f.params.toList s.vars apart W args.toList ds [] before) (hb : Below W.heap.size W W') : s.post enc P f apart fresh handsOn again W args (.bool true) W' := by
  have hr : ∀ t ∈ f.params.toList, P.readableRec t = true ∧ t < P.types.size := fun t ht => by
    have := List.all_eq_true.1 hr0 t ht
    rw [Bool.and_eq_true] at this
    exact ⟨this.1, of_decide_eq_true this.2⟩
  obtain ⟨p, q, hA, hV, hps, hz, hn⟩ := id hW
  have hq : q = [] := by rw [hsv] at hV; exact hV
  subst hq
  rw [List.append_nil] at hps
  subst hps
  have hlt : ∀ x ∈ before, x.block < W.heap.size := fun x hx => hW.lt x hx
  have hsame : ∀ x ∈ before, W.sameAt W' x := fun x hx => hb.same (hlt x hx)
  have hres : ∀ (b : Nat) (sp : Nat → Bool) (hd : Bool), DataW.TrodAll enc P W' b sp hd f.resultTypes.toList ((Value.bool true).resultList f.resultTypes.size) [.lit (.bool true)] [] := by
    intro b sp hd
    rw [hT]
    exact trodAll_mk1 (shut_bool hbt _)
  refine ⟨ds, [], before, [], before, [], hW, ?_, ?_, ?_, World.keptBut_mono (fun x hx => ⟨hx, .inr (.inl hx)⟩) (hb.frame (· ∈ before)), fun _ => ⟨?_, ?_⟩⟩
  · rw [List.append_nil, hfn]; exact hres _ _ _
  · rw [List.append_nil, hfn]; exact all_stay hl hr hA hsame fun x hx => by simpa using hlt x hx
  · rw [List.append_nil, hfn, hsv]; rfl
  · exact ok_one hT rfl (okWide_bool_mk hbt _)
  · refine ⟨_, [], before, ⟨before, [], trodAll_append (p := []) (all_stay hl hr hA hsame fun _ _ => rfl) (hres _ _ _), by rw [hsv]; rfl, by simp, fun b off hp => ?_, hn⟩, fun x hx _ => hx⟩
    rw [hb.frozen (hlt _ hp)]
    exact hz b off hp
end

theorem own_none : ownKnob Tryz.prog.godebug = none := by kernel_rfl
theorem laid_out : laidOutB Tryz.prog = true := by kernel_rfl
end Go.Proofs.YtjddelmhbafelaaGreatDoor
