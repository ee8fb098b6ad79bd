/-
  The rules for the single operations, for the walk of XM.
-/
import Derived.Test.YtapplibdoioojaaGreatDoorQA
import Derived.Deep.MidRow
import Derived.Laws.MakeOwn
import Derived.Deep.OwnRows
import Derived.Test.YtapplibdoioojaaGreatDoorQD
import Derived.Test.YtapplibdoioojaaGreatDoorQL
import Derived.Test.YtapplibdoioojaaGreatDoorRows
import Derived.ProofKit
import Derived.WideKeyArgs
import Derived.Deep.SlicePairs
import Derived.Lib.SmallJoins
import Derived.KernelRfl
set_option linter.unusedSectionVars false
set_option linter.unusedVariables false
set_option linter.unusedSimpArgs false
namespace Go.Proofs.YtapplibdoioojaaGreatDoor
open Go.RowKit

section
variable {P : Program} {ops : List Oper} {Fs : List VT} {w0 : World} {a0 : Act} {i : Nat} {o : Oper}

/-- The operand x has the property G whenever operation i comes up. -/
def Has (ops : List Oper) (Fs : List VT) (w0 : World) (a0 : Act) (i : Nat) (o : Oper) (x : Operand) (G : VT) : Prop := ∀ a w, Cx ops Fs w0 a0 i o a w → G w (a.eval x)
/-- Its guard, if it has one, lets it run. -/
def Wanted (ops : List Oper) (Fs : List VT) (w0 : World) (a0 : Act) (i : Nat) (o : Oper) : Prop := ∀ a w, Cx ops Fs w0 a0 i o a w → Region.wanted o (yielded ops.toArray a.tmps) = true

theorem Has.cst (v : Value) : Has ops Fs w0 a0 i o (.const v) (Is v) := fun _ _ _ => rfl
theorem Has.old {t : Tmp} {G : VT} (v : Value) (hn : (dstsOf ops).contains (some t) = false) (hv : a0.tmps.getD t undef = v) (hG : ∀ w, Below w0.heap.size w0 w → G w v) : Has ops Fs w0 a0 i o (.tmp t) G := fun a w cx => by
  have : a.eval (.tmp t) = v := (cx.old t (by simpa using hn)).trans hv
  rw [this]; exact hG w cx.le
theorem slot_of {a : Act} {t : Tmp} {v : Value} (h : a.tmps.toList[t]? = some v) : a.tmps.getD t undef = v := by rw [Array.getD_eq_getD_getElem?, ← Array.getElem?_toList, h]; rfl
theorem Has.oldIs {t : Tmp} {v : Value} (hn : (dstsOf ops).contains (some t) = false := by kernel_rfl) (hv : a0.tmps.toList[t]? = some v := by exact rfl) : Has ops Fs w0 a0 i o (.tmp t) (Is v) := Has.old v hn (slot_of hv) fun _ _ => rfl
theorem Has.late {t : Tmp} {v : Value} (j : Nat) {oj : Oper} (ho : ops[j]? = some oj := by exact rfl) (he : hasEdge oj i = true := by exact rfl) (hd : oj.dst = some t := by exact rfl) (hv : a0.tmps.toList[t]? = some v := by exact rfl) : Has ops Fs w0 a0 i o (.tmp t) (Is v) := fun _ _ cx => (cx.late j oj t ho he hd).trans (slot_of hv)
/-- The slot that operation j writes. -/
def dstAt (ops : List Oper) (j : Nat) : Option Tmp := (ops[j]?).bind (·.dst)
theorem back {RF : List VT} {j k : Nat} {G : VT} (hl : RF.length = j + k + 1) (hF : RF[k]? = some G) : RF.reverse[j]? = some G := by
  rw [List.getElem?_reverse (by omega), ← hF]; congr 1; omega
theorem dstAt_some {j : Nat} {t : Tmp} (h : dstAt ops j = some t) : ∃ oj, ops[j]? = some oj ∧ oj.dst = some t := by
  unfold dstAt at h
  cases ho : ops[j]? with
  | none => rw [ho] at h; cases h
  | some oj => rw [ho] at h; exact ⟨oj, rfl, h⟩
theorem Has.new {t : Tmp} {G : VT} {RF : List VT} (j k : Nat) (hF : RF[k]? = some G := by exact rfl) (hl : RF.length = j + k + 1 := by kernel_rfl) (hd : dstAt ops j = some t := by kernel_rfl) (he : hasEdge o j = true := by kernel_rfl) : Has ops RF.reverse w0 a0 i o (.tmp t) G := fun _ _ cx => by
  obtain ⟨oj, h1, h2⟩ := dstAt_some hd
  exact cx.new j oj t G he h1 h2 (back hl hF)
theorem Has.weak {x : Operand} {G H : VT} (h : Has ops Fs w0 a0 i o x G) (k : ∀ w v, G w v → H w v) : Has ops Fs w0 a0 i o x H := fun a w cx => k _ _ (h a w cx)

theorem Wanted.free (h : o.guard = none := by exact rfl) : Wanted ops Fs w0 a0 i o := fun _ _ _ => by simp [Region.wanted, h]
theorem wanted_of {j : Nat} {want b : Bool} {oj : Oper} {t : Tmp} {a : Act} {w : World} (hg : o.guard = some (j, want)) (ho : ops[j]? = some oj) (hd : oj.dst = some t) (hv : IsB b w (a.tmps.getD t undef)) : Region.wanted o (yielded ops.toArray a.tmps) = (b == want) := by
  have e : a.tmps[t]? = some (.bool b) := by
    have hv : a.tmps.getD t undef = .bool b := hv
    rw [Array.getD_eq_getD_getElem?] at hv
    cases h : a.tmps[t]? with
    | none => rw [h] at hv; simp at hv; cases hv
    | some u => rw [h] at hv; simp at hv; rw [hv]
  simp [Region.wanted, hg, yielded, ho, hd, e]
theorem Wanted.on {RF : List VT} (j k : Nat) {want : Bool} (hg : o.guard = some (j, want) := by exact rfl) (hF : RF[k]? = some (IsB want) := by exact rfl) (hl : RF.length = j + k + 1 := by kernel_rfl) (hd : (dstAt ops j).isSome = true := by kernel_rfl) (he : hasEdge o j = true := by kernel_rfl) : Wanted ops RF.reverse w0 a0 i o := fun a w cx => by
  obtain ⟨t, hd⟩ := Option.isSome_iff_exists.1 hd
  obtain ⟨oj, h1, h2⟩ := dstAt_some hd
  rw [wanted_of hg h1 h2 (cx.new j oj t _ he h1 h2 (back hl hF))]; simp

/-- The guard shuts it out: nothing is laid. -/
theorem Ob.off {RF : List VT} (j k : Nat) {want b : Bool} (hg : o.guard = some (j, want) := by exact rfl) (hF : RF[k]? = some (IsB b) := by exact rfl) (hl : RF.length = j + k + 1 := by kernel_rfl) (hd : (dstAt ops j).isSome = true := by kernel_rfl) (he : hasEdge o j = true := by kernel_rfl) (hne : (b == want) = false := by exact rfl) : Ob P ops RF.reverse w0 a0 i o (Is undef) := fun a w cx => by
  obtain ⟨t, hd⟩ := Option.isSome_iff_exists.1 hd
  obtain ⟨oj, h1, h2⟩ := dstAt_some hd
  rw [wanted_of hg h1 h2 (cx.new j oj t _ he h1 h2 (back hl hF)), hne]; exact rfl

/-- The guard's own operation was shut out. -/
theorem Ob.offU {RF : List VT} (j k : Nat) {want : Bool} (hg : o.guard = some (j, want) := by exact rfl) (hF : RF[k]? = some (Is undef) := by exact rfl) (hl : RF.length = j + k + 1 := by kernel_rfl) (hd : (dstAt ops j).isSome = true := by kernel_rfl) (he : hasEdge o j = true := by kernel_rfl) : Ob P ops RF.reverse w0 a0 i o (Is undef) := fun a w cx => by
  obtain ⟨t, hd⟩ := Option.isSome_iff_exists.1 hd
  obtain ⟨oj, ho, h2⟩ := dstAt_some hd
  have hv : a.tmps.getD t undef = undef := cx.new j oj t _ he ho h2 (back hl hF)
  have : Region.wanted o (yielded ops.toArray a.tmps) = false := by
    cases h : a.tmps[t]? with
    | none => simp [Region.wanted, hg, yielded, ho, h2, h]
    | some u =>
      rw [Array.getD_eq_getD_getElem?, h] at hv
      simp at hv
      subst hv
      simp [Region.wanted, hg, yielded, ho, h2, h, undef]
  rw [this]; exact rfl
theorem Ob.any {F : VT} (hw : Wanted ops Fs w0 a0 i o) (h : ∀ a w, Cx ops Fs w0 a0 i o a w → ∃ r w', (execOp a.eval o).run P w = .ok (.value r) w' ∧ Below w.heap.size w w' ∧ F w' r) : Ob P ops Fs w0 a0 i o F := fun a w cx => by
  rw [if_pos (hw a w cx)]
  obtain ⟨r, w', hr, hb, hF⟩ := h a w cx
  unfold Oper.wp
  rw [hr]
  exact ⟨r, rfl, hb, hF⟩
theorem Ob.stay {F : VT} (hw : Wanted ops Fs w0 a0 i o) (h : ∀ a w, Cx ops Fs w0 a0 i o a w → ∃ r, (execOp a.eval o).run P w = .ok (.value r) w ∧ F w r) : Ob P ops Fs w0 a0 i o F :=
  Ob.any hw fun a w cx => let ⟨r, h1, h2⟩ := h a w cx; ⟨r, w, h1, Below.refl _ _, h2⟩

variable {d : Option Tmp} {ty : TypeId} {pos : String} {after : Array Edge} {g : Option (Nat × Bool)}
theorem Ob.move {x : Operand} {F : VT} (hw : Wanted ops Fs w0 a0 i ⟨d, .move x, ty, pos, after, g⟩) (hx : Has ops Fs w0 a0 i ⟨d, .move x, ty, pos, after, g⟩ x F) : Ob P ops Fs w0 a0 i ⟨d, .move x, ty, pos, after, g⟩ F :=
  Ob.stay hw fun a w cx => ⟨_, by simp [execOp], hx a w cx⟩
theorem Ob.assign {x : Operand} {F : VT} (hw : Wanted ops Fs w0 a0 i ⟨d, .assign x, ty, pos, after, g⟩) (hx : Has ops Fs w0 a0 i ⟨d, .assign x, ty, pos, after, g⟩ x F) : Ob P ops Fs w0 a0 i ⟨d, .assign x, ty, pos, after, g⟩ F :=
  Ob.stay hw fun a w cx => ⟨_, by simp [execOp], hx a w cx⟩
theorem run_pick (ρ : Operand → Value) {c x y : Operand} {b : Bool} (h : ρ c = .bool b) (w : World) : (execOp ρ ⟨d, .pick c x y, ty, pos, after, g⟩).run P w = .ok (.value (if b then ρ x else ρ y)) w := by simp [execOp, asBool, h]
theorem run_not (ρ : Operand → Value) {x : Operand} {t : TypeId} {b : Bool} (h : ρ x = .bool b) (w : World) : (execOp ρ ⟨d, .unOp .not t x, ty, pos, after, g⟩).run P w = .ok (.value (.bool (!b))) w := by simp [execOp, h, go_sem]
theorem Ob.pickT {c x y : Operand} {F : VT} (hw : Wanted ops Fs w0 a0 i ⟨d, .pick c x y, ty, pos, after, g⟩) (hc : Has ops Fs w0 a0 i ⟨d, .pick c x y, ty, pos, after, g⟩ c (IsB true)) (hx : Has ops Fs w0 a0 i ⟨d, .pick c x y, ty, pos, after, g⟩ x F) : Ob P ops Fs w0 a0 i ⟨d, .pick c x y, ty, pos, after, g⟩ F :=
  Ob.stay hw fun a w cx => ⟨a.eval x, by rw [run_pick a.eval (hc a w cx)]; rfl, hx a w cx⟩
theorem Ob.pickF {c x y : Operand} {F : VT} (hw : Wanted ops Fs w0 a0 i ⟨d, .pick c x y, ty, pos, after, g⟩) (hc : Has ops Fs w0 a0 i ⟨d, .pick c x y, ty, pos, after, g⟩ c (IsB false)) (hy : Has ops Fs w0 a0 i ⟨d, .pick c x y, ty, pos, after, g⟩ y F) : Ob P ops Fs w0 a0 i ⟨d, .pick c x y, ty, pos, after, g⟩ F :=
  Ob.stay hw fun a w cx => ⟨a.eval y, by rw [run_pick a.eval (hc a w cx)]; rfl, hy a w cx⟩
theorem Ob.not {x : Operand} {b : Bool} {t : TypeId} (hw : Wanted ops Fs w0 a0 i ⟨d, .unOp .not t x, ty, pos, after, g⟩) (hx : Has ops Fs w0 a0 i ⟨d, .unOp .not t x, ty, pos, after, g⟩ x (IsB b)) : Ob P ops Fs w0 a0 i ⟨d, .unOp .not t x, ty, pos, after, g⟩ (IsB (!b)) :=
  Ob.stay hw fun a w cx => ⟨_, run_not a.eval (hx a w cx) w, rfl⟩
theorem Ob.load {x : Operand} {G F : VT} {t : TypeId} (hw : Wanted ops Fs w0 a0 i ⟨d, .load t x, ty, pos, after, g⟩) (hx : Has ops Fs w0 a0 i ⟨d, .load t x, ty, pos, after, g⟩ x G)
    (h : ∀ w v, Below w0.heap.size w0 w → G w v → ∃ r, (Instr.loadAt t v).run P w = .ok r w ∧ F w r) : Ob P ops Fs w0 a0 i ⟨d, .load t x, ty, pos, after, g⟩ F :=
  Ob.stay hw fun a w cx => by
    obtain ⟨r, h1, h2⟩ := h w _ cx.le (hx a w cx)
    exact ⟨r, by simp [execOp, h1], h2⟩
theorem Ob.fieldAddr {x : Operand} {G F : VT} {t : TypeId} {f : Nat} (hw : Wanted ops Fs w0 a0 i ⟨d, .fieldAddr t x f, ty, pos, after, g⟩) (hx : Has ops Fs w0 a0 i ⟨d, .fieldAddr t x f, ty, pos, after, g⟩ x G)
    (h : ∀ w v, Below w0.heap.size w0 w → G w v → ∃ r, (Instr.fieldAt t v f).run P w = .ok r w ∧ F w r) : Ob P ops Fs w0 a0 i ⟨d, .fieldAddr t x f, ty, pos, after, g⟩ F :=
  Ob.stay hw fun a w cx => by
    obtain ⟨r, h1, h2⟩ := h w _ cx.le (hx a w cx)
    exact ⟨r, by simp [execOp, h1], h2⟩
theorem Ob.extract {x : Operand} {G F : VT} {n : Nat} (hw : Wanted ops Fs w0 a0 i ⟨d, .extract x n, ty, pos, after, g⟩) (hx : Has ops Fs w0 a0 i ⟨d, .extract x n, ty, pos, after, g⟩ x G)
    (h : ∀ w v, Below w0.heap.size w0 w → G w v → ∃ r, (Instr.extract v n).run P w = .ok r w ∧ F w r) : Ob P ops Fs w0 a0 i ⟨d, .extract x n, ty, pos, after, g⟩ F :=
  Ob.stay hw fun a w cx => by
    obtain ⟨r, h1, h2⟩ := h w _ cx.le (hx a w cx)
    exact ⟨r, by simp [execOp, h1], h2⟩
theorem Ob.indexAddr {x y : Operand} {G H F : VT} {t : TypeId} (hw : Wanted ops Fs w0 a0 i ⟨d, .indexAddr t x y, ty, pos, after, g⟩) (hx : Has ops Fs w0 a0 i ⟨d, .indexAddr t x y, ty, pos, after, g⟩ x G) (hy : Has ops Fs w0 a0 i ⟨d, .indexAddr t x y, ty, pos, after, g⟩ y H)
    (h : ∀ w u v, Below w0.heap.size w0 w → G w u → H w v → ∃ r, (Instr.indexAt t u v).run P w = .ok r w ∧ F w r) : Ob P ops Fs w0 a0 i ⟨d, .indexAddr t x y, ty, pos, after, g⟩ F :=
  Ob.stay hw fun a w cx => by
    obtain ⟨r, h1, h2⟩ := h w _ _ cx.le (hx a w cx) (hy a w cx)
    exact ⟨r, by simp [execOp, h1], h2⟩
theorem Ob.bin {x y : Operand} {G H F : VT} {b : BinOp} {t t' : TypeId} (hw : Wanted ops Fs w0 a0 i ⟨d, .binOp b t x y t', ty, pos, after, g⟩) (hx : Has ops Fs w0 a0 i ⟨d, .binOp b t x y t', ty, pos, after, g⟩ x G) (hy : Has ops Fs w0 a0 i ⟨d, .binOp b t x y t', ty, pos, after, g⟩ y H)
    (h : ∀ w u v, Below w0.heap.size w0 w → G w u → H w v → ∃ r, (eqGuard b t x y u v).run P w = .ok () w ∧ (binOp b t u v).run P w = .ok r w ∧ F w r) : Ob P ops Fs w0 a0 i ⟨d, .binOp b t x y t', ty, pos, after, g⟩ F :=
  Ob.stay hw fun a w cx => by
    obtain ⟨r, h0, h1, h2⟩ := h w _ _ cx.le (hx a w cx) (hy a w cx)
    exact ⟨r, by simp [execOp, h0, h1], h2⟩
theorem Ob.buildSlice {F : VT} {t : TypeId} {n : Nat} {ps : Array (Nat × Operand)} (hw : Wanted ops Fs w0 a0 i ⟨d, .buildSlice t n ps, ty, pos, after, g⟩)
    (h : ∀ a w, Cx ops Fs w0 a0 i ⟨d, .buildSlice t n ps, ty, pos, after, g⟩ a w → ∃ r w', (Instr.buildSlice t n (ps.map fun (i, x) => (i, a.eval x))).run P w = .ok r w' ∧ Below w.heap.size w w' ∧ F w' r) : Ob P ops Fs w0 a0 i ⟨d, .buildSlice t n ps, ty, pos, after, g⟩ F :=
  Ob.any hw fun a w cx => by
    obtain ⟨r, w', h1, h2, h3⟩ := h a w cx
    exact ⟨r, w', by simp [execOp, h1], h2, h3⟩

theorem Ob.loadV {x : Operand} {p r : Value} {t : TypeId} (hw : Wanted ops Fs w0 a0 i ⟨d, .load t x, ty, pos, after, g⟩) (hx : Has ops Fs w0 a0 i ⟨d, .load t x, ty, pos, after, g⟩ x (Is p))
    (h : ∀ w, Below w0.heap.size w0 w → (Instr.loadAt t p).run P w = .ok r w) : Ob P ops Fs w0 a0 i ⟨d, .load t x, ty, pos, after, g⟩ (Is r) :=
  Ob.load hw hx fun w v hb e => ⟨r, by rw [show v = p from e]; exact h w hb, rfl⟩
theorem Ob.fieldV {x : Operand} {p r : Value} {t : TypeId} {f : Nat} (hw : Wanted ops Fs w0 a0 i ⟨d, .fieldAddr t x f, ty, pos, after, g⟩) (hx : Has ops Fs w0 a0 i ⟨d, .fieldAddr t x f, ty, pos, after, g⟩ x (Is p))
    (h : ∀ w, (Instr.fieldAt t p f).run P w = .ok r w) : Ob P ops Fs w0 a0 i ⟨d, .fieldAddr t x f, ty, pos, after, g⟩ (Is r) :=
  Ob.fieldAddr hw hx fun w v _ e => ⟨r, by rw [show v = p from e]; exact h w, rfl⟩
theorem Ob.indexV {x y : Operand} {p q r : Value} {t : TypeId} (hw : Wanted ops Fs w0 a0 i ⟨d, .indexAddr t x y, ty, pos, after, g⟩) (hx : Has ops Fs w0 a0 i ⟨d, .indexAddr t x y, ty, pos, after, g⟩ x (Is p)) (hy : Has ops Fs w0 a0 i ⟨d, .indexAddr t x y, ty, pos, after, g⟩ y (Is q))
    (h : ∀ w, (Instr.indexAt t p q).run P w = .ok r w) : Ob P ops Fs w0 a0 i ⟨d, .indexAddr t x y, ty, pos, after, g⟩ (Is r) :=
  Ob.indexAddr hw hx hy fun w u v _ e e' => ⟨r, by rw [show u = p from e, show v = q from e']; exact h w, rfl⟩
theorem Ob.binV {x y : Operand} {p q r : Value} {b : BinOp} {t t' : TypeId} (hw : Wanted ops Fs w0 a0 i ⟨d, .binOp b t x y t', ty, pos, after, g⟩) (hx : Has ops Fs w0 a0 i ⟨d, .binOp b t x y t', ty, pos, after, g⟩ x (Is p)) (hy : Has ops Fs w0 a0 i ⟨d, .binOp b t x y t', ty, pos, after, g⟩ y (Is q))
    (h : ∀ w, (eqGuard b t x y p q).run P w = .ok () w ∧ (Go.binOp b t p q).run P w = .ok r w) : Ob P ops Fs w0 a0 i ⟨d, .binOp b t x y t', ty, pos, after, g⟩ (Is r) :=
  Ob.bin hw hx hy fun w u v _ e e' => ⟨r, by rw [show u = p from e, show v = q from e']; exact (h w).1, by rw [show u = p from e, show v = q from e']; exact (h w).2, rfl⟩
theorem Ob.lenV {x : Operand} {p r : Value} {t : TypeId} (hw : Wanted ops Fs w0 a0 i ⟨d, .call ⟨.builtin .len, #[x], #[t]⟩, ty, pos, after, g⟩) (hx : Has ops Fs w0 a0 i ⟨d, .call ⟨.builtin .len, #[x], #[t]⟩, ty, pos, after, g⟩ x (Is p))
    (h : ∀ w, (Builtin.len_ #[t] ty #[p]).run P w = .ok r w) : Ob P ops Fs w0 a0 i ⟨d, .call ⟨.builtin .len, #[x], #[t]⟩, ty, pos, after, g⟩ (Is r) :=
  Ob.stay hw fun a w cx => ⟨r, by
    have h1 : a.eval x = p := hx a w cx
    have h2 := h w
    generalize a.eval = ρ at h1
    simp [execOp, resolve, invoke, builtin, h1, h2], rfl⟩
theorem run_call {f : FuncId} {args : Array Operand} {tys : Array TypeId} (he : Enters P f) (a : Act) (w : World) : (execOp a.eval ⟨d, .call ⟨.value (.func f), args, tys⟩, ty, pos, after, g⟩).run P w = .ok (.enter f (args.map a.eval)) w := by
  have := he (args.map a.eval) w
  simp [execOp, resolve, Act.eval, Deferred.ofValue, invoke, this]
theorem Ob.call {f : FuncId} {args : Array Operand} {tys : Array TypeId} {F : VT} (hw : Wanted ops Fs w0 a0 i ⟨d, .call ⟨.value (.func f), args, tys⟩, ty, pos, after, g⟩) (he : Enters P f)
    (h : ∀ a w, Cx ops Fs w0 a0 i ⟨d, .call ⟨.value (.func f), args, tys⟩, ty, pos, after, g⟩ a w → Calls P f (args.map a.eval) w (Ret w F)) : Ob P ops Fs w0 a0 i ⟨d, .call ⟨.value (.func f), args, tys⟩, ty, pos, after, g⟩ F := fun a w cx => by
  rw [if_pos (hw a w cx)]
  unfold Oper.wp
  rw [run_call he a w]
  refine (h a w cx).mono ?_
  rintro e w' ⟨v, rfl, hb, hF⟩
  exact ⟨v, rfl, hb, hF⟩
theorem Ob.call0 {f : FuncId} {tys : Array TypeId} {F : VT} (hw : Wanted ops Fs w0 a0 i ⟨d, .call ⟨.value (.func f), #[], tys⟩, ty, pos, after, g⟩) (he : Enters P f)
    (h : ∀ w, Below w0.heap.size w0 w → Calls P f #[] w (Ret w F)) : Ob P ops Fs w0 a0 i ⟨d, .call ⟨.value (.func f), #[], tys⟩, ty, pos, after, g⟩ F := Ob.call hw he fun a w cx => by rw [List.map_toArray]; exact h w cx.le
theorem Ob.call1 {f : FuncId} {tys : Array TypeId} {x : Operand} {G F : VT} (hw : Wanted ops Fs w0 a0 i ⟨d, .call ⟨.value (.func f), #[x], tys⟩, ty, pos, after, g⟩) (he : Enters P f)
    (hx : Has ops Fs w0 a0 i ⟨d, .call ⟨.value (.func f), #[x], tys⟩, ty, pos, after, g⟩ x G)
    (h : ∀ w v, Below w0.heap.size w0 w → G w v → Calls P f #[v] w (Ret w F)) : Ob P ops Fs w0 a0 i ⟨d, .call ⟨.value (.func f), #[x], tys⟩, ty, pos, after, g⟩ F := Ob.call hw he fun a w cx => by rw [List.map_toArray]; exact h w _ cx.le (hx a w cx)
theorem Ob.call2 {f : FuncId} {tys : Array TypeId} {x y : Operand} {G H F : VT} (hw : Wanted ops Fs w0 a0 i ⟨d, .call ⟨.value (.func f), #[x, y], tys⟩, ty, pos, after, g⟩) (he : Enters P f)
    (hx : Has ops Fs w0 a0 i ⟨d, .call ⟨.value (.func f), #[x, y], tys⟩, ty, pos, after, g⟩ x G) (hy : Has ops Fs w0 a0 i ⟨d, .call ⟨.value (.func f), #[x, y], tys⟩, ty, pos, after, g⟩ y H)
    (h : ∀ w u v, Below w0.heap.size w0 w → G w u → H w v → Calls P f #[u, v] w (Ret w F)) : Ob P ops Fs w0 a0 i ⟨d, .call ⟨.value (.func f), #[x, y], tys⟩, ty, pos, after, g⟩ F := Ob.call hw he fun a w cx => by rw [List.map_toArray]; exact h w _ _ cx.le (hx a w cx) (hy a w cx)
theorem Ob.call3 {f : FuncId} {tys : Array TypeId} {x y z : Operand} {G H K F : VT} (hw : Wanted ops Fs w0 a0 i ⟨d, .call ⟨.value (.func f), #[x, y, z], tys⟩, ty, pos, after, g⟩) (he : Enters P f)
    (hx : Has ops Fs w0 a0 i ⟨d, .call ⟨.value (.func f), #[x, y, z], tys⟩, ty, pos, after, g⟩ x G) (hy : Has ops Fs w0 a0 i ⟨d, .call ⟨.value (.func f), #[x, y, z], tys⟩, ty, pos, after, g⟩ y H) (hz : Has ops Fs w0 a0 i ⟨d, .call ⟨.value (.func f), #[x, y, z], tys⟩, ty, pos, after, g⟩ z K)
    (h : ∀ w u v s, Below w0.heap.size w0 w → G w u → H w v → K w s → Calls P f #[u, v, s] w (Ret w F)) : Ob P ops Fs w0 a0 i ⟨d, .call ⟨.value (.func f), #[x, y, z], tys⟩, ty, pos, after, g⟩ F := Ob.call hw he fun a w cx => by rw [List.map_toArray]; exact h w _ _ _ cx.le (hx a w cx) (hy a w cx) (hz a w cx)
theorem Ob.call4 {f : FuncId} {tys : Array TypeId} {x y z q : Operand} {G H K L F : VT} (hw : Wanted ops Fs w0 a0 i ⟨d, .call ⟨.value (.func f), #[x, y, z, q], tys⟩, ty, pos, after, g⟩) (he : Enters P f)
    (hx : Has ops Fs w0 a0 i ⟨d, .call ⟨.value (.func f), #[x, y, z, q], tys⟩, ty, pos, after, g⟩ x G) (hy : Has ops Fs w0 a0 i ⟨d, .call ⟨.value (.func f), #[x, y, z, q], tys⟩, ty, pos, after, g⟩ y H) (hz : Has ops Fs w0 a0 i ⟨d, .call ⟨.value (.func f), #[x, y, z, q], tys⟩, ty, pos, after, g⟩ z K) (hq : Has ops Fs w0 a0 i ⟨d, .call ⟨.value (.func f), #[x, y, z, q], tys⟩, ty, pos, after, g⟩ q L)
    (h : ∀ w u v s r, Below w0.heap.size w0 w → G w u → H w v → K w s → L w r → Calls P f #[u, v, s, r] w (Ret w F)) : Ob P ops Fs w0 a0 i ⟨d, .call ⟨.value (.func f), #[x, y, z, q], tys⟩, ty, pos, after, g⟩ F := Ob.call hw he fun a w cx => by rw [List.map_toArray]; exact h w _ _ _ _ cx.le (hx a w cx) (hy a w cx) (hz a w cx) (hq a w cx)
theorem Ob.call1V {f : FuncId} {tys : Array TypeId} {x : Operand} {p1 : Value} {F : VT} (hw : Wanted ops Fs w0 a0 i ⟨d, .call ⟨.value (.func f), #[x], tys⟩, ty, pos, after, g⟩) (he : Enters P f) (hx : Has ops Fs w0 a0 i ⟨d, .call ⟨.value (.func f), #[x], tys⟩, ty, pos, after, g⟩ x (Is p1))
    (h : ∀ w, Below w0.heap.size w0 w → Calls P f #[p1] w (Ret w F)) : Ob P ops Fs w0 a0 i ⟨d, .call ⟨.value (.func f), #[x], tys⟩, ty, pos, after, g⟩ F := Ob.call1 hw he hx fun w v0 hb e0 => by unfold Is at *; subst e0; exact h w hb
theorem Ob.call2V {f : FuncId} {tys : Array TypeId} {x y : Operand} {p1 p2 : Value} {F : VT} (hw : Wanted ops Fs w0 a0 i ⟨d, .call ⟨.value (.func f), #[x, y], tys⟩, ty, pos, after, g⟩) (he : Enters P f) (hx : Has ops Fs w0 a0 i ⟨d, .call ⟨.value (.func f), #[x, y], tys⟩, ty, pos, after, g⟩ x (Is p1)) (hy : Has ops Fs w0 a0 i ⟨d, .call ⟨.value (.func f), #[x, y], tys⟩, ty, pos, after, g⟩ y (Is p2))
    (h : ∀ w, Below w0.heap.size w0 w → Calls P f #[p1, p2] w (Ret w F)) : Ob P ops Fs w0 a0 i ⟨d, .call ⟨.value (.func f), #[x, y], tys⟩, ty, pos, after, g⟩ F := Ob.call2 hw he hx hy fun w v0 v1 hb e0 e1 => by unfold Is at *; subst e0; subst e1; exact h w hb
theorem Ob.call3V {f : FuncId} {tys : Array TypeId} {x y z : Operand} {p1 p2 p3 : Value} {F : VT} (hw : Wanted ops Fs w0 a0 i ⟨d, .call ⟨.value (.func f), #[x, y, z], tys⟩, ty, pos, after, g⟩) (he : Enters P f) (hx : Has ops Fs w0 a0 i ⟨d, .call ⟨.value (.func f), #[x, y, z], tys⟩, ty, pos, after, g⟩ x (Is p1)) (hy : Has ops Fs w0 a0 i ⟨d, .call ⟨.value (.func f), #[x, y, z], tys⟩, ty, pos, after, g⟩ y (Is p2)) (hz : Has ops Fs w0 a0 i ⟨d, .call ⟨.value (.func f), #[x, y, z], tys⟩, ty, pos, after, g⟩ z (Is p3))
    (h : ∀ w, Below w0.heap.size w0 w → Calls P f #[p1, p2, p3] w (Ret w F)) : Ob P ops Fs w0 a0 i ⟨d, .call ⟨.value (.func f), #[x, y, z], tys⟩, ty, pos, after, g⟩ F := Ob.call3 hw he hx hy hz fun w v0 v1 v2 hb e0 e1 e2 => by unfold Is at *; subst e0; subst e1; subst e2; exact h w hb
theorem Ob.call4V {f : FuncId} {tys : Array TypeId} {x y z q : Operand} {p1 p2 p3 p4 : Value} {F : VT} (hw : Wanted ops Fs w0 a0 i ⟨d, .call ⟨.value (.func f), #[x, y, z, q], tys⟩, ty, pos, after, g⟩) (he : Enters P f) (hx : Has ops Fs w0 a0 i ⟨d, .call ⟨.value (.func f), #[x, y, z, q], tys⟩, ty, pos, after, g⟩ x (Is p1)) (hy : Has ops Fs w0 a0 i ⟨d, .call ⟨.value (.func f), #[x, y, z, q], tys⟩, ty, pos, after, g⟩ y (Is p2)) (hz : Has ops Fs w0 a0 i ⟨d, .call ⟨.value (.func f), #[x, y, z, q], tys⟩, ty, pos, after, g⟩ z (Is p3)) (hq : Has ops Fs w0 a0 i ⟨d, .call ⟨.value (.func f), #[x, y, z, q], tys⟩, ty, pos, after, g⟩ q (Is p4))
    (h : ∀ w, Below w0.heap.size w0 w → Calls P f #[p1, p2, p3, p4] w (Ret w F)) : Ob P ops Fs w0 a0 i ⟨d, .call ⟨.value (.func f), #[x, y, z, q], tys⟩, ty, pos, after, g⟩ F := Ob.call4 hw he hx hy hz hq fun w v0 v1 v2 v3 hb e0 e1 e2 e3 => by unfold Is at *; subst e0; subst e1; subst e2; subst e3; exact h w hb
end

theorem mixed : Tryz.prog.follows .mixedOrders = true := by kernel_rfl
section
variable {w0 w : World} {b o : Nat}
theorem load_dot {x y : Int} (hb : Below w0.heap.size w0 w) (h1 : w0.cell? ⟨b, o, none⟩ = some (.int .i64 x)) (h2 : w0.cell? ⟨b, o + 1, none⟩ = some (.int .i64 y)) : (Instr.loadAt 98 (.pointer (some ⟨b, o, none⟩))).run Tryz.prog w = .ok (.agg #[.int .i64 x, .int .i64 y]) w := by
  have c1 := cellKeep hb h1
  have c2 := cellKeep hb h2
  simp [go_sem, c1, c2]
theorem load_int {x : Int} (hb : Below w0.heap.size w0 w) (h1 : w0.cell? ⟨b, o, none⟩ = some (.int .i64 x)) : (Instr.loadAt 3 (.pointer (some ⟨b, o, none⟩))).run Tryz.prog w = .ok (.int .i64 x) w := by
  have c1 := cellKeep hb h1
  simp [go_sem, c1]
theorem field_dot0 : (Instr.fieldAt 98 (.pointer (some ⟨b, o, none⟩)) 0).run Tryz.prog w = .ok (.pointer (some ⟨b, o, none⟩)) w := by simp [go_sem]
theorem field_dot1 : (Instr.fieldAt 98 (.pointer (some ⟨b, o, none⟩)) 1).run Tryz.prog w = .ok (.pointer (some ⟨b, o + 1, none⟩)) w := by simp [go_sem]

theorem index_vec {n c k : Nat} (hk : k < n) : (Instr.indexAt 63 (.slice (some ⟨b, o, none⟩) n c) (.int .i64 (k : Int))).run Tryz.prog w = .ok (.pointer (some ⟨b, o + k * 2, none⟩)) w := by
  have h1 : (0 : Int) ≤ (k : Int) := by omega
  have h2 : (k : Int) < (n : Int) := by omega
  simp [go_sem, h1, h2]
theorem index_dots {n c k : Nat} (hk : k < n) : (Instr.indexAt 62 (.slice (some ⟨b, o, none⟩) n c) (.int .i64 (k : Int))).run Tryz.prog w = .ok (.pointer (some ⟨b, o + k * 2, none⟩)) w := by
  have h1 : (0 : Int) ≤ (k : Int) := by omega
  have h2 : (k : Int) < (n : Int) := by omega
  simp [go_sem, h1, h2]
theorem sub_one {x y : Operand} {k : Nat} (hk : k + 1 ≤ 9223372036854775807) : (eqGuard .sub 3 x y (.int .i64 ((k + 1 : Nat) : Int)) (.int .i64 1)).run Tryz.prog w = .ok () w ∧ (Go.binOp .sub 3 (.int .i64 ((k + 1 : Nat) : Int)) (.int .i64 1)).run Tryz.prog w = .ok (.int .i64 (k : Int)) w := by
  have e : IntKind.i64.wrap (k : Int) = k := IntWalk.i64_in _ (by omega)
  constructor
  · simp [go_sem]
  · simp [go_sem, e]
theorem field_con0 : (Instr.fieldAt 65 (.pointer (some ⟨b, o, none⟩)) 0).run Tryz.prog w = .ok (.pointer (some ⟨b, o, none⟩)) w := by simp [go_sem]
theorem field_con1 : (Instr.fieldAt 65 (.pointer (some ⟨b, o, none⟩)) 1).run Tryz.prog w = .ok (.pointer (some ⟨b, o + 1, none⟩)) w := by simp [go_sem]
theorem load_vec {A : Option Addr} {n c : Nat} (hb : Below w0.heap.size w0 w) (h1 : w0.cell? ⟨b, o, none⟩ = some (.slice A n c)) : (Instr.loadAt 63 (.pointer (some ⟨b, o, none⟩))).run Tryz.prog w = .ok (.slice A n c) w := by
  have c1 := cellKeep hb h1
  simp [go_sem, c1]
theorem load_dots {A : Option Addr} {n c : Nat} (hb : Below w0.heap.size w0 w) (h1 : w0.cell? ⟨b, o, none⟩ = some (.slice A n c)) : (Instr.loadAt 62 (.pointer (some ⟨b, o, none⟩))).run Tryz.prog w = .ok (.slice A n c) w := by
  have c1 := cellKeep hb h1
  simp [go_sem, c1]
theorem load_con {A B : Option Addr} {n c m d : Nat} (hb : Below w0.heap.size w0 w) (h1 : w0.cell? ⟨b, o, none⟩ = some (.slice A n c)) (h2 : w0.cell? ⟨b, o + 1, none⟩ = some (.slice B m d)) : (Instr.loadAt 65 (.pointer (some ⟨b, o, none⟩))).run Tryz.prog w = .ok (.agg #[.slice A n c, .slice B m d]) w := by
  have c1 := cellKeep hb h1
  have c2 := cellKeep hb h2
  simp [go_sem, c1, c2]
theorem int_add {x y : Operand} {a c : Int} (r : Int) (h : IntKind.i64.wrap (a + c) = r) : (eqGuard .add 3 x y (.int .i64 a) (.int .i64 c)).run Tryz.prog w = .ok () w ∧ (Go.binOp .add 3 (.int .i64 a) (.int .i64 c)).run Tryz.prog w = .ok (.int .i64 r) w := by subst h; simp [go_sem]
theorem len_dots {A : Option Addr} {n c : Nat} {ty : TypeId} : (Builtin.len_ #[62] ty #[.slice A n c]).run Tryz.prog w = .ok (.int .i64 (n : Int)) w := by simp [go_sem]
theorem len_vec {A : Option Addr} {n c : Nat} {ty : TypeId} : (Builtin.len_ #[63] ty #[.slice A n c]).run Tryz.prog w = .ok (.int .i64 (n : Int)) w := by simp [go_sem]
/-- Tests on integers and bools. -/
theorem int_gtr {x y : Operand} {k : IntKind} {t : TypeId} {a c : Int} (r : Bool) (h : (decide (c < a)) = r) : (eqGuard .gtr t x y (.int k a) (.int k c)).run Tryz.prog w = .ok () w ∧ (Go.binOp .gtr t (.int k a) (.int k c)).run Tryz.prog w = .ok (.bool r) w := by subst h; simp [go_sem]
theorem int_geq {x y : Operand} {k : IntKind} {t : TypeId} {a c : Int} (r : Bool) (h : (decide (c ≤ a)) = r) : (eqGuard .geq t x y (.int k a) (.int k c)).run Tryz.prog w = .ok () w ∧ (Go.binOp .geq t (.int k a) (.int k c)).run Tryz.prog w = .ok (.bool r) w := by subst h; simp [go_sem]
theorem int_lss {x y : Operand} {k : IntKind} {t : TypeId} {a c : Int} (r : Bool) (h : (decide (a < c)) = r) : (eqGuard .lss t x y (.int k a) (.int k c)).run Tryz.prog w = .ok () w ∧ (Go.binOp .lss t (.int k a) (.int k c)).run Tryz.prog w = .ok (.bool r) w := by subst h; simp [go_sem]
theorem int_leq {x y : Operand} {k : IntKind} {t : TypeId} {a c : Int} (r : Bool) (h : (decide (a ≤ c)) = r) : (eqGuard .leq t x y (.int k a) (.int k c)).run Tryz.prog w = .ok () w ∧ (Go.binOp .leq t (.int k a) (.int k c)).run Tryz.prog w = .ok (.bool r) w := by subst h; simp [go_sem]
theorem int_eql {x y : Operand} {k : IntKind} {t : TypeId} {a c : Int} (r : Bool) (h : (a == c) = r) : (eqGuard .eql t x y (.int k a) (.int k c)).run Tryz.prog w = .ok () w ∧ (Go.binOp .eql t (.int k a) (.int k c)).run Tryz.prog w = .ok (.bool r) w := by subst h; simp [go_sem]
theorem int_neq {x y : Operand} {k : IntKind} {t : TypeId} {a c : Int} (r : Bool) (h : (a != c) = r) : (eqGuard .neq t x y (.int k a) (.int k c)).run Tryz.prog w = .ok () w ∧ (Go.binOp .neq t (.int k a) (.int k c)).run Tryz.prog w = .ok (.bool r) w := by subst h; simp [go_sem]
theorem bool_neq {x y : Operand} {a c : Bool} (r : Bool) (h : (a != c) = r) : (eqGuard .neq 4 x y (.bool a) (.bool c)).run Tryz.prog w = .ok () w ∧ (Go.binOp .neq 4 (.bool a) (.bool c)).run Tryz.prog w = .ok (.bool r) w := by subst h; cases a <;> cases c <;> simp [go_sem]
theorem bool_eql {x y : Operand} {a c : Bool} (r : Bool) (h : (a == c) = r) : (eqGuard .eql 4 x y (.bool a) (.bool c)).run Tryz.prog w = .ok () w ∧ (Go.binOp .eql 4 (.bool a) (.bool c)).run Tryz.prog w = .ok (.bool r) w := by subst h; simp [go_sem]
end
end Go.Proofs.YtapplibdoioojaaGreatDoor

/-
  Slices that are made at once and filled by stores: an element's cells, whatever they are.
-/
namespace Go.Proofs.YtapplibdoioojaaGreatDoor
open Go.RowKit

theorem rangeKeep {w w' : World} {b o : Nat} {cs : List Value} (h : w.rangeAt b o cs) (hb : Below w.heap.size w w') : w'.rangeAt b o cs := fun j v hj => cellKeep hb (h j v hj)
theorem thereKeep {w w' : World} {b o n : Nat} (h : w.there b o n) (hb : Below w.heap.size w w') : w'.there b o n := fun j hj => by
  obtain ⟨h1, h2⟩ := h j hj
  obtain ⟨v, hv⟩ := Option.isSome_iff_exists.1 h1
  exact ⟨by rw [cellKeep hb hv]; rfl, by rw [hb.frozen (p := ⟨b, o + j, none⟩) (World.block_lt_of_cell? w _ hv)]; exact h2⟩
theorem belowCells {W : World} {g : Nat} (hg : W.heap.size ≤ g) : ∀ (vs : List Value) (o : Nat) (w : World), Below W.heap.size W w → Below W.heap.size W (w.setCells g o vs)
  | [], _, _, h => h
  | v :: r, o, w, h => by
    rw [World.setCells]
    exact belowCells hg r (o + 1) _ (h.setCell (p := ⟨g, o, none⟩) hg v)
/-- n elements of z cells in a block that may be written: what they are. -/
structure Arr (w : World) (g n z : Nat) (f : Nat → List Value) : Prop where
  there : w.there g 0 (n * z)
  len : ∀ i, i < n → (f i).length = z
  at_ : ∀ i, i < n → w.rangeAt g (i * z) (f i)
section
variable {w w' : World} {g n z : Nat} {f : Nat → List Value}
theorem Arr.mono (h : Arr w g n z f) (hb : Below w.heap.size w w') : Arr w' g n z f := ⟨thereKeep h.there hb, h.len, fun i hi => rangeKeep (h.at_ i hi) hb⟩
theorem idx_le {i n z : Nat} (h : i < n) : i * z + z ≤ n * z := by
  have := Nat.mul_le_mul_right z (show i + 1 ≤ n from h)
  rw [Nat.add_mul] at this
  omega
theorem Arr.part (h : Arr w g n z f) {i : Nat} (hi : i < n) : w.there g (i * z) z := fun j hj => by
  have := h.there (i * z + j) (by have := idx_le (z := z) hi; omega)
  simpa [Nat.zero_add] using this
theorem Arr.store (h : Arr w g n z f) {i : Nat} (hi : i < n) {cs : List Value} (hc : cs.length = z) : Arr (w.setCells g (i * z) cs) g n z (fun j => if j = i then cs else f j) := by
  refine ⟨World.there_setCells h.there _ _ _, fun j hj => ?_, fun j hj => ?_⟩
  · show (if j = i then cs else f j).length = z
    split
    · exact hc
    · exact h.len j hj
  · show (w.setCells g (i * z) cs).rangeAt g (j * z) (if j = i then cs else f j)
    by_cases e : j = i
    · rw [if_pos e, e]
      exact World.rangeAt_setCells_same w g _ cs (by rw [hc]; exact h.part hi)
    · rw [if_neg e]
      refine World.rangeAt_setCells_apart (h.at_ j hj) g _ cs (.inr ?_)
      rw [h.len j hj, hc]
      rcases Nat.lt_or_ge j i with hlt | hge
      · exact .inl (idx_le hlt)
      · exact .inr (idx_le (show i < j by omega))
theorem Arr.congr {k : Nat → List Value} (h : Arr w g n z f) (e : ∀ i, i < n → k i = f i) : Arr w g n z k := ⟨h.there, fun i hi => by rw [e i hi]; exact h.len i hi, fun i hi => by rw [e i hi]; exact h.at_ i hi⟩
end
theorem madeCells_get (zc : Array Value) (hz : 0 < zc.size) (k j : Nat) (hj : j < k) : (madeCells zc k)[j]? = zc[j % zc.size]? := by
  have h1 : j % zc.size < zc.size := Nat.mod_lt _ hz
  simp [madeCells, hj, h1]
/-- Made: each element is the zero value. -/
theorem Arr.made (w : World) (zc : Array Value) (n : Nat) (e : TypeId) (hz : 0 < zc.size) : Arr (w.alloc (.cells (madeCells zc (n * zc.size)) e)) w.heap.size n zc.size (fun _ => zc.toList) := by
  have cell : ∀ j, j < n * zc.size → (w.alloc (.cells (madeCells zc (n * zc.size)) e)).cell? ⟨w.heap.size, j, none⟩ = zc[j % zc.size]? := fun j hj => by
    rw [cell_of_row _ _ _ _ e (0, 0) (heap_alloc_new w _), madeCells_get zc hz _ j hj]
  refine ⟨fun j hj => ⟨?_, ?_⟩, fun i _ => by simp, fun i hi j v hj => ?_⟩
  · rw [Nat.zero_add, cell j hj]
    have h1 : j % zc.size < zc.size := Nat.mod_lt _ hz
    simp [h1]
  · exact frozen_of_row _ _ _ _ e (heap_alloc_new w _)
  · have hjz : j < zc.size := by have := (List.getElem?_eq_some_iff.1 hj).1; simpa using this
    rw [cell _ (by have := idx_le (z := zc.size) hi; omega)]
    have e1 : (i * zc.size + j) % zc.size = j := by rw [Nat.mul_comm, Nat.mul_add_mod, Nat.mod_eq_of_lt hjz]
    rw [e1, ← Array.getElem?_toList]
    exact hj
end Go.Proofs.YtapplibdoioojaaGreatDoor

/-
  Models that are none: nil, and zero.
-/
namespace Go.Proofs.YtapplibdoioojaaGreatDoor
open Go.RowKit
/-- The model p is none, as long as the world only grows. -/
def NoneM (w : World) (p : Value) : Prop := ∀ w', Below w.heap.size w w' → Calls Tryz.prog 20 #[p] w' (Ret w' (IsB true))
theorem NoneM.mono {w w' : World} {p : Value} (h : NoneM w p) (hb : Below w.heap.size w w') : NoneM w' p := fun w2 h2 => h w2 (hb.le h2)
theorem retB' {b c : Bool} {w w' : World} (h : b = c) (hb : Below w.heap.size w w') : Ret w (IsB c) (.returned (.bool b)) w' := ⟨_, rfl, hb, by rw [h]; rfl⟩
theorem none_nil (w : World) : NoneM w (.pointer none) := fun w' _ => by
  go_enter Tryz.func20, Tryz.ntmps20
  go_wp2
  go_ret
  exact retB' rfl (Below.refl _ _)
theorem none_zero {w : World} {b : Nat} (h : ∀ j, j < 4 → w.cell? ⟨b, j, none⟩ = some (.int .i64 0)) : NoneM w (.pointer (some ⟨b, 0, none⟩)) := fun w' hb => by
  have c0 := cellKeep hb (h 0 (by decide)); have c1 := cellKeep hb (h 1 (by decide)); have c2 := cellKeep hb (h 2 (by decide)); have c3 := cellKeep hb (h 3 (by decide))
  go_enter Tryz.func20, Tryz.ntmps20
  go_wp2
  go_ret
  exact retB' (by simp) (Below.refl _ _)
theorem noneCarts {w : World} {p : Value} (h : NoneM w p) : Calls Tryz.prog 9 #[p] w (Ret w (Is (.slice none 0 0))) := by
  have N := Lib.hid (h w (Below.refl _ _))
  clear h
  go_enter Tryz.func9, Tryz.ntmps9
  go_wp2_with fail
  refine N.out.mono ?_
  rintro _ w1 ⟨_, rfl, hb1, rfl⟩
  go_wp2
  go_ret
  exact ⟨_, rfl, hb1, rfl⟩
theorem noneCopy {w : World} {p : Value} (h : NoneM w p) : Calls Tryz.prog 15 #[p] w (Ret w (Is (.pointer none))) := by
  have N := Lib.hid (h w (Below.refl _ _))
  clear h
  go_enter Tryz.func15, Tryz.ntmps15
  go_wp2_with fail
  refine N.out.mono ?_
  rintro _ w1 ⟨_, rfl, hb1, rfl⟩
  go_wp2
  go_ret
  exact ⟨_, rfl, hb1, rfl⟩
theorem noneSkip {w : World} {p : Value} (h : NoneM w p) (n : Int) : Calls Tryz.prog 14 #[p, .int .i64 n] w (Ret w (IsI 1)) := by
  have N := Lib.hid (h w (Below.refl _ _))
  clear h
  go_enter Tryz.func14, Tryz.ntmps14
  go_wp2_with fail
  refine N.out.mono ?_
  rintro _ w1 ⟨_, rfl, hb1, rfl⟩
  go_wp2
  go_ret
  exact ⟨_, rfl, hb1, rfl⟩
theorem noneRun {w : World} {p : Value} (h : NoneM w p) (A : Option Addr) (n c : Nat) : Calls Tryz.prog 10 #[p, .slice A n c] w (Ret w (Is (.tuple #[.slice none 0 0, .int .i64 1]))) := by
  have N := Lib.hid (h w (Below.refl _ _))
  clear h
  go_enter Tryz.func10, Tryz.ntmps10
  go_wp2_with fail
  refine N.out.mono ?_
  rintro _ w1 ⟨_, rfl, hb1, rfl⟩
  go_wp2
  refine bodyPost_ret (v := .tuple #[.slice none 0 0, .int .i64 1]) (by simp [results, Tryz.results10, go_sem]) rfl ?_
  exact ⟨_, rfl, hb1, rfl⟩
/-- A call: its parts. -/
structure CallP where
  op : Int
  key : ByteArray
  other : ByteArray
  item : ByteArray
  qty : Int
  A : Option Addr
  n : Nat
  c : Nat
def CallP.v (x : CallP) : Value := .agg #[.int .i64 x.op, .string x.key, .string x.other, .string x.item, .int .i64 x.qty, .slice x.A x.n x.c]
theorem noneDo {w : World} {p : Value} (h : NoneM w p) (x : CallP) : Calls Tryz.prog 19 #[p, x.v] w (Ret w (Is (.tuple #[.agg #[.int .i64 0, .int .i64 0, .int .i64 0, .slice none 0 0, .slice none 0 0], .int .i64 1]))) := by
  have N := Lib.hid h
  obtain ⟨o, k, t, i, q, A, n, c⟩ := x
  unfold CallP.v
  clear h
  go_enter Tryz.func19, Tryz.ntmps19
  go_wp2_with fail
  refine (N.out _ (by go_grown)).mono ?_
  rintro _ w1 ⟨_, rfl, hb1, rfl⟩
  have hb : Below w.heap.size w w1 := (show Below w.heap.size w _ by go_grown).le hb1
  have HB := Lib.hid hb
  have z0 := cellKeep hb1 (v := .int .i64 0) (a := ⟨w.heap.size + 1, 0, none⟩) (by simp [go_sem])
  have fz0 : w1.frozen? ⟨w.heap.size + 1, 0, none⟩ = false := (hb1.frozen (p := ⟨w.heap.size + 1, 0, none⟩) (by simp)).trans (by simp [go_sem])
  have z1 := cellKeep hb1 (v := .int .i64 0) (a := ⟨w.heap.size + 1, 1, none⟩) (by simp [go_sem])
  have fz1 : w1.frozen? ⟨w.heap.size + 1, 1, none⟩ = false := (hb1.frozen (p := ⟨w.heap.size + 1, 1, none⟩) (by simp)).trans (by simp [go_sem])
  have z2 := cellKeep hb1 (v := .int .i64 0) (a := ⟨w.heap.size + 1, 2, none⟩) (by simp [go_sem])
  have fz2 : w1.frozen? ⟨w.heap.size + 1, 2, none⟩ = false := (hb1.frozen (p := ⟨w.heap.size + 1, 2, none⟩) (by simp)).trans (by simp [go_sem])
  have z3 := cellKeep hb1 (v := .slice none 0 0) (a := ⟨w.heap.size + 1, 3, none⟩) (by simp [go_sem])
  have fz3 : w1.frozen? ⟨w.heap.size + 1, 3, none⟩ = false := (hb1.frozen (p := ⟨w.heap.size + 1, 3, none⟩) (by simp)).trans (by simp [go_sem])
  have z4 := cellKeep hb1 (v := .slice none 0 0) (a := ⟨w.heap.size + 1, 4, none⟩) (by simp [go_sem])
  have fz4 : w1.frozen? ⟨w.heap.size + 1, 4, none⟩ = false := (hb1.frozen (p := ⟨w.heap.size + 1, 4, none⟩) (by simp)).trans (by simp [go_sem])
  clear hb1 hb
  go_wp2
  refine bodyPost_ret (v := .tuple #[.agg #[.int .i64 0, .int .i64 0, .int .i64 0, .slice none 0 0, .slice none 0 0], .int .i64 1]) (by simp [results, Tryz.results19, go_sem, z0, z1, z2, z3, z4]) rfl ?_
  exact ⟨_, rfl, (((((HB.out.setCell (p := ⟨w.heap.size + 1, 0, none⟩) (by simp) _).setCell (p := ⟨w.heap.size + 1, 1, none⟩) (by simp) _).setCell (p := ⟨w.heap.size + 1, 2, none⟩) (by simp) _).setCell (p := ⟨w.heap.size + 1, 3, none⟩) (by simp) _).setCell (p := ⟨w.heap.size + 1, 4, none⟩) (by simp) _), rfl⟩
end Go.Proofs.YtapplibdoioojaaGreatDoor

/-
  New tables, counters, inboxes, outboxes, nodes.
-/
namespace Go.Proofs.YtapplibdoioojaaGreatDoor
open Go.RowKit
theorem retP {w w' : World} {u : Value} (hb : Below w.heap.size w w') {F : World → Value → Prop} (h : F w' u) : Ret w F (.returned u) w' := ⟨_, rfl, hb, h⟩
theorem dvalid (x y : Int) (w : World) (hy : 1 ≤ y ∧ y ≤ 4294967295) : Calls Tryz.prog 40 #[.agg #[.int .i64 x, .int .i64 y]] w (Ret w (IsB (decide (1 ≤ x ∧ x ≤ 65535)))) := by
  have d3 := decide_eq_true hy.1; have d4 := decide_eq_true hy.2
  by_cases h1 : 1 ≤ x
  · by_cases h2 : x ≤ 65535
    · have d1 := decide_eq_true h1; have d2 := decide_eq_true h2
      have e : decide (1 ≤ x ∧ x ≤ 65535) = true := decide_eq_true ⟨h1, h2⟩
      rw [e]
      clear h1 h2 e
      go_enter Tryz.func40, Tryz.ntmps40
      go_wp2
      go_ret
      exact retB' (by simp) (by go_grown)
    · have d1 := decide_eq_true h1; have d2 := decide_eq_false h2
      have e : decide (1 ≤ x ∧ x ≤ 65535) = false := decide_eq_false fun h => h2 h.2
      rw [e]
      clear h1 h2 e
      go_enter Tryz.func40, Tryz.ntmps40
      go_wp2
      go_ret
      exact retB' (by simp) (by go_grown)
  · have d1 := decide_eq_false h1
    have e : decide (1 ≤ x ∧ x ≤ 65535) = false := decide_eq_false fun h => h1 h.1
    rw [e]
    clear h1 e
    go_enter Tryz.func40, Tryz.ntmps40
    go_wp2
    go_ret
    exact retB' (by simp) (by go_grown)
/-- A new thing, or none: the two results. -/
def Made (b : Bool) (F : World → Nat → Prop) (w : World) (v : Value) : Prop := if b then ∃ B, v = .tuple #[.pointer (some ⟨B, 0, none⟩), .int .i64 0] ∧ F w B else v = .tuple #[.pointer none, .int .i64 2]
theorem new_inbox (n : Int) (w : World) : Calls Tryz.prog 30 #[.int .i64 n] w (Ret w (Made (decide (1 ≤ n ∧ n ≤ 4096)) fun _ _ => True)) := by
  by_cases h1 : n < 1
  · have d1 := decide_eq_true h1
    have e : decide (1 ≤ n ∧ n ≤ 4096) = false := decide_eq_false fun h => by omega
    rw [e]
    clear h1 e
    go_enter Tryz.func30, Tryz.ntmps30
    go_wp2
    refine bodyPost_ret (v := .tuple #[.pointer none, .int .i64 2]) (by simp [results, Tryz.results30, go_sem]) rfl ?_
    exact retP (Below.refl _ _) rfl
  · by_cases h2 : 4096 < n
    · have d1 := decide_eq_false h1; have d2 := decide_eq_true h2
      have e : decide (1 ≤ n ∧ n ≤ 4096) = false := decide_eq_false fun h => by omega
      rw [e]
      clear h1 h2 e
      go_enter Tryz.func30, Tryz.ntmps30
      go_wp2
      refine bodyPost_ret (v := .tuple #[.pointer none, .int .i64 2]) (by simp [results, Tryz.results30, go_sem]) rfl ?_
      exact retP (Below.refl _ _) rfl
    · have d1 := decide_eq_false h1; have d2 := decide_eq_false h2
      have e : decide (1 ≤ n ∧ n ≤ 4096) = true := decide_eq_true (by omega)
      rw [e]
      clear h1 h2 e
      go_enter Tryz.func30, Tryz.ntmps30
      go_wp2
      refine bodyPost_ret (v := .tuple #[.pointer (some ⟨w.heap.size, 0, none⟩), .int .i64 0]) (by simp [results, Tryz.results30, go_sem]) rfl ?_
      exact retP (by go_grown) ⟨_, rfl, trivial⟩
theorem new_outbox (n : Int) (w : World) : Calls Tryz.prog 31 #[.int .i64 n] w (Ret w (Made (decide (1 ≤ n ∧ n ≤ 256)) fun _ _ => True)) := by
  by_cases h1 : n < 1
  · have d1 := decide_eq_true h1
    have e : decide (1 ≤ n ∧ n ≤ 256) = false := decide_eq_false fun h => by omega
    rw [e]
    clear h1 e
    go_enter Tryz.func31, Tryz.ntmps31
    go_wp2
    refine bodyPost_ret (v := .tuple #[.pointer none, .int .i64 2]) (by simp [results, Tryz.results31, go_sem]) rfl ?_
    exact retP (Below.refl _ _) rfl
  · by_cases h2 : 256 < n
    · have d1 := decide_eq_false h1; have d2 := decide_eq_true h2
      have e : decide (1 ≤ n ∧ n ≤ 256) = false := decide_eq_false fun h => by omega
      rw [e]
      clear h1 h2 e
      go_enter Tryz.func31, Tryz.ntmps31
      go_wp2
      refine bodyPost_ret (v := .tuple #[.pointer none, .int .i64 2]) (by simp [results, Tryz.results31, go_sem]) rfl ?_
      exact retP (Below.refl _ _) rfl
    · have d1 := decide_eq_false h1; have d2 := decide_eq_false h2
      have e : decide (1 ≤ n ∧ n ≤ 256) = true := decide_eq_true (by omega)
      rw [e]
      clear h1 h2 e
      go_enter Tryz.func31, Tryz.ntmps31
      go_wp2
      refine bodyPost_ret (v := .tuple #[.pointer (some ⟨w.heap.size, 0, none⟩), .int .i64 0]) (by simp [results, Tryz.results31, go_sem]) rfl ?_
      exact retP (by go_grown) ⟨_, rfl, trivial⟩
theorem new_counter (n : Int) (w : World) : Calls Tryz.prog 29 #[.int .i64 n, .int .i64 0] w (Ret w (Made (decide (1 ≤ n ∧ n ≤ 65535)) fun _ _ => True)) := by
  have D := Lib.hid (dvalid n 1)
  cases hd : decide (1 ≤ n ∧ n ≤ 65535) with
  | false =>
    rw [hd] at D
    clear hd
    go_enter Tryz.func29, Tryz.ntmps29
    go_wp2_with fail
    refine (D.out w (by decide)).mono ?_
    rintro _ w1 ⟨_, rfl, hb1, rfl⟩
    go_wp2
    refine bodyPost_ret (v := .tuple #[.pointer none, .int .i64 2]) (by simp [results, Tryz.results29, go_sem]) rfl ?_
    exact retP hb1 rfl
  | true =>
    rw [hd] at D
    clear hd
    go_enter Tryz.func29, Tryz.ntmps29
    go_wp2_with fail
    refine (D.out w (by decide)).mono ?_
    rintro _ w1 ⟨_, rfl, hb1, rfl⟩
    go_wp2
    refine bodyPost_ret (v := .tuple #[.pointer (some ⟨w1.heap.size, 0, none⟩), .int .i64 0]) (by simp [results, Tryz.results29, go_sem]) rfl ?_
    exact retP (hb1.alloc hb1.size _) ⟨_, rfl, trivial⟩
theorem info_map : (Tryz.prog.info? 105).map (fun i => (i.zero, i.size, decide (i.bytes ≤ 1000))) = some (some (.map none), 1, true) := by kernel_rfl
theorem run_makeT (n : Nat) (hn : n ≤ 1000000) (w : World) : (Instr.makeSlice 102 (.int .i64 (n : Int)) (.int .i64 (n : Int))).run Tryz.prog w = .ok (.slice (some ⟨w.heap.size, 0, none⟩) n n) (w.alloc (.cells (madeCells #[.map none] n) 105)) := by
  obtain ⟨i, hi, hzz⟩ := Option.map_eq_some_iff.1 info_map
  simp only [Prod.mk.injEq] at hzz
  obtain ⟨h1, h2, h3⟩ := hzz
  have h4 : i.bytes ≤ 1000 := of_decide_eq_true h3
  have h5 : i.bytes * n ≤ 1000 * 1000000 := Nat.mul_le_mul h4 hn
  exact run_make_row 102 105 i (.map none) Tryz.underlying102 hi h1 h2 rfl .i64 .i64 n (by omega) (by omega) w
/-- A table of n stripes, without carts, in block b. -/
def TableAt (n : Nat) (w : World) (b : Nat) : Prop := w.cell? ⟨b, 1, none⟩ = some (.int .i64 0) ∧ ∃ a, w.cell? ⟨b, 0, none⟩ = some (.slice a n n)
theorem there_made (w : World) (z : Value) (n : Nat) (e : TypeId) : (w.alloc (.cells (madeCells #[z] n) e)).there w.heap.size 0 n := fun j hj => by
  rw [Nat.zero_add]
  exact ⟨by rw [cell_of_row _ _ _ _ e (0, 0) (heap_alloc_new w _)]; simp [madeCells, hj], frozen_of_row _ _ _ _ e (heap_alloc_new w _)⟩
def TRel (w : World) (g n : Nat) (i : Value) (wr : World) : Prop := ∃ k : Nat, i = .int .i64 k ∧ k ≤ n ∧ Below w.heap.size w wr ∧ g = w.heap.size ∧ wr.there g 0 n ∧ wr.cell? ⟨g + 1, 0, none⟩ = some (.slice (some ⟨g, 0, none⟩) n n) ∧ wr.cell? ⟨g + 1, 1, none⟩ = some (.int .i64 0)
theorem there_set {w : World} {g n : Nat} (h : w.there g 0 n) (j : Nat) (v : Value) : (w.setCell ⟨g, j, none⟩ v).there g 0 n := by
  have := World.there_setCells h g j [v]
  simpa [World.setCells] using this
set_option maxRecDepth 100000 in
theorem new_table (n : Int) (w : World) : Calls Tryz.prog 28 #[.int .i64 n] w (Ret w (Made (decide (1 ≤ n ∧ n ≤ 1024)) fun w' b => TableAt n.toNat w' b)) := by
  by_cases h1 : n < 1
  · have d1 := decide_eq_true h1
    have e : decide (1 ≤ n ∧ n ≤ 1024) = false := decide_eq_false fun h => by omega
    rw [e]
    clear h1 e
    go_enter Tryz.func28, Tryz.ntmps28
    go_wp2
    refine bodyPost_ret (v := .tuple #[.pointer none, .int .i64 2]) (by simp [results, Tryz.results28, go_sem]) rfl ?_
    exact retP (Below.refl _ _) rfl
  · by_cases h2 : 1024 < n
    · have d1 := decide_eq_false h1; have d2 := decide_eq_true h2
      have e : decide (1 ≤ n ∧ n ≤ 1024) = false := decide_eq_false fun h => by omega
      rw [e]
      clear h1 h2 e
      go_enter Tryz.func28, Tryz.ntmps28
      go_wp2
      refine bodyPost_ret (v := .tuple #[.pointer none, .int .i64 2]) (by simp [results, Tryz.results28, go_sem]) rfl ?_
      exact retP (Below.refl _ _) rfl
    · have d1 := decide_eq_false h1; have d2 := decide_eq_false h2
      have e : decide (1 ≤ n ∧ n ≤ 1024) = true := decide_eq_true (by omega)
      rw [e]
      clear e
      obtain ⟨m, rfl⟩ : ∃ m : Nat, n = (m : Int) := ⟨n.toNat, by omega⟩
      have hm : m ≤ 1024 := by omega
      have HM := Lib.hid hm
      have hmk := run_makeT m (by omega)
      rw [Int.toNat_natCast]
      have HBG : m ≤ 9223372036854775807 := by omega
      clear h1 h2 hm
      go_enter Tryz.func28, Tryz.ntmps28
      go_wp2
      clear d1 d2 hmk
      have hmm := @run_makeMap Tryz.prog
      go_loopw [21] (fun i wr => TRel w w.heap.size m i wr) (fun i _ => m - (intOf i).toNat)
      case atStart => exact ⟨0, rfl, Nat.zero_le _, by go_grown, rfl, World.there_alloc (there_made w _ m _) _, by simp [go_sem], by simp [go_sem]⟩
      case round =>
        obtain ⟨k, rfl, hk, hb, _, ht, c0, c1⟩ := hrel
        have HB := Lib.hid hb; have HT := Lib.hid ht; have C0 := Lib.hid c0; have C1 := Lib.hid c1
        by_cases hlt : k < m
        · obtain ⟨h1, h2⟩ := ht k hlt
          obtain ⟨u, hu⟩ := Option.isSome_iff_exists.1 h1
          rw [Nat.zero_add] at hu h2
          have hbw : Below wr.heap.size wr (wr.alloc (.map #[] 0)) := (Below.refl _ _).alloc (Nat.le_refl _) _
          have hu2 := cellKeep hbw hu
          have hf2 : (wr.alloc (.map #[] 0)).frozen? ⟨w.heap.size, k, none⟩ = false := (hbw.frozen (p := ⟨w.heap.size, k, none⟩) (World.block_lt_of_cell? wr _ hu)).trans h2
          have HT2 := Lib.hid (thereKeep HT.out hbw); have D0 := Lib.hid (cellKeep hbw c0); have D1 := Lib.hid (cellKeep hbw c1)
          have HB2 := Lib.hid (HB.out.le hbw)
          have e0 := c0
          clear hb ht c0 c1 h1 h2 hu hbw
          go_wp2
          go_roundw
          case rel => exact ⟨k + 1, by simp, hlt, HB2.out.setCell (p := ⟨w.heap.size, k, none⟩) (Nat.le_refl _) _, rfl, there_set HT2.out _ _, (World.cell?_setCell_far _ ⟨w.heap.size, k, none⟩ ⟨w.heap.size + 1, 0, none⟩ _ (by simp)).trans D0.out, (World.cell?_setCell_far _ ⟨w.heap.size, k, none⟩ ⟨w.heap.size + 1, 1, none⟩ _ (by simp)).trans D1.out⟩
          case measure => simp [intOf]; omega
        · have hkm : k = m := by omega
          subst hkm
          clear hb ht c0 c1 hmm
          go_wp2
          refine bodyPost_ret (v := .tuple #[.pointer (some ⟨w.heap.size + 1, 0, none⟩), .int .i64 0]) (by simp [results, Tryz.results28, go_sem]) rfl ?_
          exact retP HB.out ⟨_, rfl, C1.out, _, C0.out⟩
end Go.Proofs.YtapplibdoioojaaGreatDoor

/-
  New nodes.
-/
namespace Go.Proofs.YtapplibdoioojaaGreatDoor
open Go.RowKit
theorem made_two {b : Bool} {F : World → Nat → Prop} {w : World} {v : Value} (h : Made b F w v) : ∃ p e, v = .tuple #[p, .int .i64 e] ∧ (b = true → e = 0 ∧ ∃ B, p = .pointer (some ⟨B, 0, none⟩) ∧ F w B) ∧ (b = false → e = 2 ∧ p = .pointer none) := by
  unfold Made at h
  cases b with
  | true =>
    obtain ⟨B, rfl, hF⟩ := h
    exact ⟨_, _, rfl, fun _ => ⟨rfl, B, rfl, hF⟩, fun e => nomatch e⟩
  | false =>
    cases h
    exact ⟨_, _, rfl, (fun e => nomatch e), fun _ => ⟨rfl, rfl⟩⟩
def NodeAt (w : World) (b : Nat) : Prop := ∃ T m, w.cell? ⟨b, 4, none⟩ = some (.pointer (some ⟨T, 0, none⟩)) ∧ TableAt m w T ∧ 1 ≤ m ∧ m ≤ 1024
theorem TableAt.mono {n : Nat} {w w' : World} {b : Nat} (h : TableAt n w b) (hb : Below w.heap.size w w') : TableAt n w' b := ⟨cellKeep hb h.1, let ⟨a, ha⟩ := h.2; ⟨a, cellKeep hb ha⟩⟩
abbrev bR (r : Int) : Bool := decide (1 ≤ r ∧ r ≤ 65535)
abbrev bS (s : Int) : Bool := decide (1 ≤ s ∧ s ≤ 1024)
abbrev bI (i : Int) : Bool := decide (1 ≤ i ∧ i ≤ 4096)
abbrev bO (o : Int) : Bool := decide (1 ≤ o ∧ o ≤ 256)
set_option maxRecDepth 100000 in
theorem new_node (r s i o : Int) (w : World) : Calls Tryz.prog 16 #[.agg #[.int .i64 r, .int .i64 s, .int .i64 i, .int .i64 o]] w (Ret w (Made (bS s && bR r && bI i && bO o) NodeAt)) := by
  go_enter Tryz.func16, Tryz.ntmps16
  go_wp2_with fail
  refine (new_table s _).mono ?_
  rintro _ w1 ⟨v1, rfl, hb1, hm1⟩
  obtain ⟨p1, e1, rfl, t1, f1⟩ := made_two hm1
  have c0 := cellKeep hb1 (v := .int .i64 r) (a := ⟨w.heap.size, 0, none⟩) (by simp [go_sem])
  have c1 := cellKeep hb1 (v := .int .i64 s) (a := ⟨w.heap.size, 1, none⟩) (by simp [go_sem])
  have c2 := cellKeep hb1 (v := .int .i64 i) (a := ⟨w.heap.size, 2, none⟩) (by simp [go_sem])
  have c3 := cellKeep hb1 (v := .int .i64 o) (a := ⟨w.heap.size, 3, none⟩) (by simp [go_sem])
  have HB1 := Lib.hid ((show Below w.heap.size w _ by go_grown).le hb1)
  have T1 := Lib.hid t1; have F1 := Lib.hid f1
  clear hm1 hb1 t1 f1
  go_wp2_with fail
  refine (new_counter r _).mono ?_
  rintro _ w2 ⟨v2, rfl, hb2, hm2⟩
  obtain ⟨p2, e2, rfl, t2, f2⟩ := made_two hm2
  replace c0 := cellKeep hb2 c0; replace c1 := cellKeep hb2 c1; replace c2 := cellKeep hb2 c2; replace c3 := cellKeep hb2 c3
  have HB2 := Lib.hid (HB1.out.le hb2); have HK2 := Lib.hid hb2
  have T2 := Lib.hid t2; have F2 := Lib.hid f2
  clear hm2 hb2 t2 f2
  go_wp2_with fail
  refine (new_inbox i _).mono ?_
  rintro _ w3 ⟨v3, rfl, hb3, hm3⟩
  obtain ⟨p3, e3, rfl, t3, f3⟩ := made_two hm3
  replace c0 := cellKeep hb3 c0; replace c1 := cellKeep hb3 c1; replace c2 := cellKeep hb3 c2; replace c3 := cellKeep hb3 c3
  have HB3 := Lib.hid (HB2.out.le hb3); have HK3 := Lib.hid (HK2.out.le hb3)
  have T3 := Lib.hid t3; have F3 := Lib.hid f3
  clear hm3 hb3 t3 f3
  go_wp2_with fail
  refine (new_outbox o _).mono ?_
  rintro _ w4 ⟨v4, rfl, hb4, hm4⟩
  obtain ⟨p4, e4, rfl, t4, f4⟩ := made_two hm4
  replace c0 := cellKeep hb4 c0; replace c1 := cellKeep hb4 c1; replace c2 := cellKeep hb4 c2; replace c3 := cellKeep hb4 c3
  have HB4 := Lib.hid (HB3.out.le hb4); have HK4 := Lib.hid (HK3.out.le hb4)
  have T4 := Lib.hid t4; have F4 := Lib.hid f4
  clear hm4 hb4 t4 f4
  cases hS : bS s with
  | false =>
    obtain ⟨rfl, rfl⟩ := F1.out hS
    have QB := Lib.hid (show (bS s && bR r && bI i && bO o) = false by rw [hS]; rfl)
    clear T1 F1 T2 F2 T3 F3 T4 F4 hS
    go_wp2
    refine bodyPost_ret (v := .tuple #[.pointer none, .int .i64 2]) (by simp [results, Tryz.results16, go_sem]) rfl ?_
    exact retP HB4.out (by rw [QB.out]; rfl)
  | true =>
    obtain ⟨rfl, B1, rfl, hT⟩ := T1.out hS
    cases hR : bR r with
    | false =>
      obtain ⟨rfl, rfl⟩ := F2.out hR
      have QB := Lib.hid (show (bS s && bR r && bI i && bO o) = false by rw [hS, hR]; rfl)
      clear T1 F1 T2 F2 T3 F3 T4 F4 hS hR hT
      go_wp2
      refine bodyPost_ret (v := .tuple #[.pointer none, .int .i64 2]) (by simp [results, Tryz.results16, go_sem]) rfl ?_
      exact retP HB4.out (by rw [QB.out]; rfl)
    | true =>
      obtain ⟨rfl, B2, rfl, _⟩ := T2.out hR
      cases hI : bI i with
      | false =>
        obtain ⟨rfl, rfl⟩ := F3.out hI
        have QB := Lib.hid (show (bS s && bR r && bI i && bO o) = false by rw [hS, hR, hI]; rfl)
        clear T1 F1 T2 F2 T3 F3 T4 F4 hS hR hI hT
        go_wp2
        refine bodyPost_ret (v := .tuple #[.pointer none, .int .i64 2]) (by simp [results, Tryz.results16, go_sem]) rfl ?_
        exact retP HB4.out (by rw [QB.out]; rfl)
      | true =>
        obtain ⟨rfl, B3, rfl, _⟩ := T3.out hI
        cases hO : bO o with
        | false =>
          obtain ⟨rfl, rfl⟩ := F4.out hO
          have QB := Lib.hid (show (bS s && bR r && bI i && bO o) = false by rw [hS, hR, hI, hO]; rfl)
          clear T1 F1 T2 F2 T3 F3 T4 F4 hS hR hI hO hT
          go_wp2
          refine bodyPost_ret (v := .tuple #[.pointer none, .int .i64 2]) (by simp [results, Tryz.results16, go_sem]) rfl ?_
          exact retP HB4.out (by rw [QB.out]; rfl)
        | true =>
          obtain ⟨rfl, B4, rfl, _⟩ := T4.out hO
          have QB := Lib.hid (show (bS s && bR r && bI i && bO o) = true by rw [hS, hR, hI, hO]; rfl)
          have hs := of_decide_eq_true hS
          have HT := Lib.hid (hT.mono HK4.out); have HSZ := Lib.hid hs
          clear T1 F1 T2 F2 T3 F3 T4 F4 hS hR hI hO hT hs
          go_wp2
          refine bodyPost_ret (v := .tuple #[.pointer (some ⟨w4.heap.size, 0, none⟩), .int .i64 0]) (by simp [results, Tryz.results16, go_sem]) rfl ?_
          exact retP (HB4.out.alloc HB4.out.size _) (by rw [QB.out]; exact ⟨_, rfl, B1, s.toNat, by simp [go_sem], HT.out.mono ((Below.refl _ _).alloc (Nat.le_refl _) _), by have := HSZ.out; omega, by have := HSZ.out; omega⟩)
end Go.Proofs.YtapplibdoioojaaGreatDoor

/-
  New models.
-/
namespace Go.Proofs.YtapplibdoioojaaGreatDoor
open Go.RowKit
theorem NodeAt.mono {w w' : World} {b : Nat} (h : NodeAt w b) (hb : Below w.heap.size w w') : NodeAt w' b := by
  obtain ⟨T, m, h1, h2, h3⟩ := h
  exact ⟨T, m, cellKeep hb h1, h2.mono hb, h3⟩
theorem tnone {m : Nat} {w : World} {b : Nat} (h : TableAt m w b) (hm : 1 ≤ m ∧ m ≤ 1024) : Calls Tryz.prog 41 #[.pointer (some ⟨b, 0, none⟩)] w (Ret w (IsB false)) := by
  obtain ⟨c1, a, c0⟩ := h
  have d1 : ((m : Int) == 0) = false := by rw [beq_eq_false_iff_ne]; omega
  have d2 : decide ((m : Int) = 0) = false := decide_eq_false (by omega)
  go_enter Tryz.func41, Tryz.ntmps41
  go_wp2
  go_ret
  exact retB' (by first | (simp; done) | (simp; omega)) (Below.refl _ _)
theorem troom {m : Nat} {w : World} {b : Nat} (h : TableAt m w b) (hm : 1 ≤ m ∧ m ≤ 1024) : Calls Tryz.prog 33 #[.pointer (some ⟨b, 0, none⟩)] w (Ret w (IsI 1024)) := by
  have N := Lib.hid (tnone h hm)
  have C := Lib.hid h.1
  clear h hm
  go_enter Tryz.func33, Tryz.ntmps33
  go_wp2_with fail
  refine N.out.mono ?_
  rintro _ w1 ⟨_, rfl, hb1, rfl⟩
  have c1 := cellKeep hb1 C.out
  go_wp2
  go_ret
  exact ⟨_, rfl, hb1, by simp [Is]⟩
theorem nnone {w : World} {b T : Nat} (h : w.cell? ⟨b, 4, none⟩ = some (.pointer (some ⟨T, 0, none⟩))) : Calls Tryz.prog 32 #[.pointer (some ⟨b, 0, none⟩)] w (Ret w (IsB false)) := by
  go_enter Tryz.func32, Tryz.ntmps32
  go_wp2
  go_ret
  exact retB' (by simp) (Below.refl _ _)
theorem nroom {w : World} {b : Nat} (h : NodeAt w b) : Calls Tryz.prog 17 #[.pointer (some ⟨b, 0, none⟩)] w (Ret w (IsI 1024)) := by
  obtain ⟨T, m, c, ht, hm⟩ := h
  have N := Lib.hid (nnone c)
  have C := Lib.hid c; have HT := Lib.hid ht; have HM := Lib.hid hm
  clear c ht hm
  go_enter Tryz.func17, Tryz.ntmps17
  go_wp2_with fail
  refine N.out.mono ?_
  rintro _ w1 ⟨_, rfl, hb1, rfl⟩
  have c1 := cellKeep hb1 C.out
  have HB := Lib.hid hb1
  have HT1 := Lib.hid (HT.out.mono hb1)
  clear hb1
  go_wp2_with fail
  refine (troom HT1.out HM.out).mono ?_
  rintro _ w2 ⟨_, rfl, hb2, rfl⟩
  go_wp2
  go_ret
  exact ⟨_, rfl, HB.out.le hb2, rfl⟩
/-- A new model in a box. -/
def ModAt (r s i o : Int) (w : World) (b : Nat) : Prop := w.cell? ⟨b, 0, none⟩ = some (.int .i64 r) ∧ w.cell? ⟨b, 1, none⟩ = some (.int .i64 s) ∧ w.cell? ⟨b, 2, none⟩ = some (.int .i64 i) ∧ w.cell? ⟨b, 3, none⟩ = some (.int .i64 o) ∧ w.cell? ⟨b, 4, none⟩ = some (.slice none 0 0) ∧ w.heap[b]? = some (.cells #[.int .i64 r, .int .i64 s, .int .i64 i, .int .i64 o, .slice none 0 0, .int .i64 1024, .int .i64 0, .slice none 0 0, .slice none 0 0, .slice none 0 0, .bool false] 44)
def IsMod (r s i o : Int) (w : World) (v : Value) : Prop := ∃ b, v = .pointer (some ⟨b, 0, none⟩) ∧ ModAt r s i o w b
theorem ModAt.mono {r s i o : Int} {w w' : World} {b : Nat} (h : ModAt r s i o w b) (hb : Below w.heap.size w w') : ModAt r s i o w' b :=
  ⟨cellKeep hb h.1, cellKeep hb h.2.1, cellKeep hb h.2.2.1, cellKeep hb h.2.2.2.1, cellKeep hb h.2.2.2.2.1, (hb.block b (Array.getElem?_eq_some_iff.1 h.2.2.2.2.2).1).trans h.2.2.2.2.2⟩
instance (r s i o : Int) : Grows (IsMod r s i o) := ⟨fun hb ⟨b, e, h⟩ => ⟨b, e, h.mono hb⟩⟩
theorem load_conf {w0 w : World} {b : Nat} {r s i o : Int} (hb : Below w0.heap.size w0 w) (h0 : w0.cell? ⟨b, 0, none⟩ = some (.int .i64 r)) (h1 : w0.cell? ⟨b, 1, none⟩ = some (.int .i64 s)) (h2 : w0.cell? ⟨b, 2, none⟩ = some (.int .i64 i)) (h3 : w0.cell? ⟨b, 3, none⟩ = some (.int .i64 o)) :
    (Instr.loadAt 23 (.pointer (some ⟨b, 0, none⟩))).run Tryz.prog w = .ok (.agg #[.int .i64 r, .int .i64 s, .int .i64 i, .int .i64 o]) w := by
  have c0 := cellKeep hb h0; have c1 := cellKeep hb h1; have c2 := cellKeep hb h2; have c3 := cellKeep hb h3
  simp [go_sem, c0, c1, c2, c3]
section
variable {ops : List Oper} {Fs : List VT} {w0 : World} {a0 : Act} {i : Nat} {o : Oper} {d : Option Tmp} {ty : TypeId} {pos : String} {after : Array Edge} {g : Option (Nat × Bool)}
theorem Ob.mkMod {x y : Operand} {r s k q : Int} (hw : Wanted ops Fs w0 a0 i ⟨d, .build 44 #[(0, x), (2, y)], ty, pos, after, g⟩) (hx : Has ops Fs w0 a0 i ⟨d, .build 44 #[(0, x), (2, y)], ty, pos, after, g⟩ x (Is (.agg #[.int .i64 r, .int .i64 s, .int .i64 k, .int .i64 q])))
    (hy : Has ops Fs w0 a0 i ⟨d, .build 44 #[(0, x), (2, y)], ty, pos, after, g⟩ y (IsI 1024)) (_ : True) :
    Ob Tryz.prog ops Fs w0 a0 i ⟨d, .build 44 #[(0, x), (2, y)], ty, pos, after, g⟩ (Is (.agg #[.int .i64 r, .int .i64 s, .int .i64 k, .int .i64 q, .slice none 0 0, .int .i64 1024, .int .i64 0, .slice none 0 0, .slice none 0 0, .slice none 0 0, .bool false])) :=
  Ob.stay hw fun a w cx => ⟨_, by
    have h1 : a.eval x = .agg #[.int .i64 r, .int .i64 s, .int .i64 k, .int .i64 q] := hx a w cx
    have h2 : a.eval y = .int .i64 1024 := hy a w cx
    generalize a.eval = ρ at h1 h2
    simp [execOp, h1, h2, go_sem], rfl⟩
theorem Ob.boxMod {x : Operand} {r s k q : Int} (hw : Wanted ops Fs w0 a0 i ⟨d, .box 44 x, ty, pos, after, g⟩) (hx : Has ops Fs w0 a0 i ⟨d, .box 44 x, ty, pos, after, g⟩ x (Is (.agg #[.int .i64 r, .int .i64 s, .int .i64 k, .int .i64 q, .slice none 0 0, .int .i64 1024, .int .i64 0, .slice none 0 0, .slice none 0 0, .slice none 0 0, .bool false]))) (_ : True) :
    Ob Tryz.prog ops Fs w0 a0 i ⟨d, .box 44 x, ty, pos, after, g⟩ (IsMod r s k q) :=
  Ob.any hw fun a w cx => by
    have h1 : a.eval x = .agg #[.int .i64 r, .int .i64 s, .int .i64 k, .int .i64 q, .slice none 0 0, .int .i64 1024, .int .i64 0, .slice none 0 0, .slice none 0 0, .slice none 0 0, .bool false] := hx a w cx
    refine ⟨.pointer (some ⟨w.heap.size, 0, none⟩), w.alloc (.cells #[.int .i64 r, .int .i64 s, .int .i64 k, .int .i64 q, .slice none 0 0, .int .i64 1024, .int .i64 0, .slice none 0 0, .slice none 0 0, .slice none 0 0, .bool false] 44), ?_, (Below.refl _ _).alloc (Nat.le_refl _) _, w.heap.size, rfl, by simp [go_sem], by simp [go_sem], by simp [go_sem], by simp [go_sem], by simp [go_sem], heap_alloc_new w _⟩
    generalize a.eval = ρ at h1
    simp [execOp, h1, go_sem]
end
theorem entersRoom : Enters Tryz.prog 17 := enters_of Tryz.func17 (by kernel_rfl) rfl
def rightB (r s i o : Int) : Bool := bS s && bR r && bI i && bO o
set_option maxRecDepth 100000 in
theorem new_model (r s i o : Int) (w : World) : Calls Tryz.prog 6 #[.agg #[.int .i64 r, .int .i64 s, .int .i64 i, .int .i64 o]] w (Ret w (Made (rightB r s i o) (ModAt r s i o))) := by
  have NN := Lib.hid (new_node r s i o)
  have e : (bS s && bR r && bI i && bO o) = rightB r s i o := rfl
  rw [e] at NN
  clear e
  go_enter Tryz.func6, Tryz.ntmps6
  go_wp2_with fail
  refine (NN.out _).mono ?_
  rintro _ w1 ⟨v1, rfl, hb1, hm1⟩
  obtain ⟨p1, e1, rfl, t1, f1⟩ := made_two hm1
  have c0 := cellKeep hb1 (v := .int .i64 r) (a := ⟨w.heap.size, 0, none⟩) (by simp [go_sem])
  have c1 := cellKeep hb1 (v := .int .i64 s) (a := ⟨w.heap.size, 1, none⟩) (by simp [go_sem])
  have c2 := cellKeep hb1 (v := .int .i64 i) (a := ⟨w.heap.size, 2, none⟩) (by simp [go_sem])
  have c3 := cellKeep hb1 (v := .int .i64 o) (a := ⟨w.heap.size, 3, none⟩) (by simp [go_sem])
  have HB1 := Lib.hid ((show Below w.heap.size w _ by go_grown).le hb1)
  clear hm1 hb1 NN
  cases hq : rightB r s i o with
  | false =>
    obtain ⟨rfl, rfl⟩ := f1 hq
    have QB := Lib.hid hq
    clear t1 f1 hq
    go_wp2
    refine bodyPost_ret (v := .tuple #[.pointer none, .int .i64 2]) (by simp [results, Tryz.results6, go_sem]) rfl ?_
    exact retP HB1.out (by rw [QB.out]; rfl)
  | true =>
    obtain ⟨rfl, B1, rfl, hN⟩ := t1 hq
    have QB := Lib.hid hq
    have HN := Lib.hid hN
    have C0 := Lib.hid c0; have C1 := Lib.hid c1; have C2 := Lib.hid c2; have C3 := Lib.hid c3
    clear t1 f1 hq hN c0 c1 c2 c3
    go_wp2_with fail
    refine wp_region_MT 5 mixed (by kernel_rfl) (by kernel_rfl) ?_
    refine MDerT.step (Ob.loadV Wanted.free Has.oldIs (fun w9 hb9 => load_conf hb9 C0.out C1.out C2.out C3.out)) ?_
    refine MDerT.step (Ob.move Wanted.free Has.oldIs) ?_
    refine MDerT.step (Ob.call1V Wanted.free entersRoom (Has.new 1 0) (fun w9 hb9 => nroom (HN.out.mono hb9))) ?_
    refine MDerT.step (Ob.mkMod Wanted.free (Has.new 0 2) (Has.new 2 0) trivial) ?_
    refine MDerT.step (Ob.boxMod Wanted.free (Has.new 3 0) trivial) ?_
    simp only [MDerT, dstsOf, List.map, EndM, List.reverse_cons, List.reverse_nil, List.nil_append, List.cons_append, List.take_succ_cons, List.take_zero, List.drop_succ_cons, List.drop_zero]
    intro wE hE
    iterate 4 (rintro _ rfl)
    rintro _ ⟨b, rfl, hmod⟩
    simp only [Act.put, List.setIfInBounds_toArray, List.set_cons_zero, List.set_cons_succ]
    have HM := Lib.hid hmod; have HE := Lib.hid hE
    clear hmod hE
    go_wp2
    refine bodyPost_ret (v := .tuple #[.pointer (some ⟨b, 0, none⟩), .int .i64 0]) (by simp [results, Tryz.results6, go_sem]) rfl ?_
    exact retP (HB1.out.le HE.out) (by rw [QB.out]; exact ⟨_, rfl, HM.out⟩)
set_option maxRecDepth 100000 in
theorem cRight (r s i o : Int) (w : World) : Calls Tryz.prog 7 #[.agg #[.int .i64 r, .int .i64 s, .int .i64 i, .int .i64 o]] w (Ret w (IsB (rightB r s i o))) := by
  by_cases h1 : 1 ≤ r
  · skip
    by_cases h2 : r ≤ 65535
    · skip
      by_cases h3 : 1 ≤ s
      · skip
        by_cases h4 : s ≤ 1024
        · skip
          by_cases h5 : 1 ≤ i
          · skip
            by_cases h6 : i ≤ 4096
            · skip
              by_cases h7 : 1 ≤ o
              · skip
                by_cases h8 : o ≤ 256
                · skip
                  have d1 := decide_eq_true h1; have d2 := decide_eq_true h2; have d3 := decide_eq_true h3; have d4 := decide_eq_true h4; have d5 := decide_eq_true h5; have d6 := decide_eq_true h6; have d7 := decide_eq_true h7; have d8 := decide_eq_true h8
                  have e : rightB r s i o = true := by simp [rightB, bS, bR, bI, bO]; omega
                  rw [e]
                  clear h1 h2 h3 h4 h5 h6 h7 h8 e
                  go_enter Tryz.func7, Tryz.ntmps7
                  go_wp2
                  go_ret
                  exact retB' (by simp) (by go_grown)
                · skip
                  have d1 := decide_eq_true h1; have d2 := decide_eq_true h2; have d3 := decide_eq_true h3; have d4 := decide_eq_true h4; have d5 := decide_eq_true h5; have d6 := decide_eq_true h6; have d7 := decide_eq_true h7; have d8 := decide_eq_false h8
                  have e : rightB r s i o = false := by rw [Bool.eq_false_iff]; intro h; simp [rightB, bS, bR, bI, bO] at h; omega
                  rw [e]
                  clear h1 h2 h3 h4 h5 h6 h7 h8 e
                  go_enter Tryz.func7, Tryz.ntmps7
                  go_wp2
                  go_ret
                  exact retB' (by simp) (by go_grown)
              · skip
                have d1 := decide_eq_true h1; have d2 := decide_eq_true h2; have d3 := decide_eq_true h3; have d4 := decide_eq_true h4; have d5 := decide_eq_true h5; have d6 := decide_eq_true h6; have d7 := decide_eq_false h7
                have e : rightB r s i o = false := by rw [Bool.eq_false_iff]; intro h; simp [rightB, bS, bR, bI, bO] at h; omega
                rw [e]
                clear h1 h2 h3 h4 h5 h6 h7 e
                go_enter Tryz.func7, Tryz.ntmps7
                go_wp2
                go_ret
                exact retB' (by simp) (by go_grown)
            · skip
              have d1 := decide_eq_true h1; have d2 := decide_eq_true h2; have d3 := decide_eq_true h3; have d4 := decide_eq_true h4; have d5 := decide_eq_true h5; have d6 := decide_eq_false h6
              have e : rightB r s i o = false := by rw [Bool.eq_false_iff]; intro h; simp [rightB, bS, bR, bI, bO] at h; omega
              rw [e]
              clear h1 h2 h3 h4 h5 h6 e
              go_enter Tryz.func7, Tryz.ntmps7
              go_wp2
              go_ret
              exact retB' (by simp) (by go_grown)
          · skip
            have d1 := decide_eq_true h1; have d2 := decide_eq_true h2; have d3 := decide_eq_true h3; have d4 := decide_eq_true h4; have d5 := decide_eq_false h5
            have e : rightB r s i o = false := by rw [Bool.eq_false_iff]; intro h; simp [rightB, bS, bR, bI, bO] at h; omega
            rw [e]
            clear h1 h2 h3 h4 h5 e
            go_enter Tryz.func7, Tryz.ntmps7
            go_wp2
            go_ret
            exact retB' (by simp) (by go_grown)
        · skip
          have d1 := decide_eq_true h1; have d2 := decide_eq_true h2; have d3 := decide_eq_true h3; have d4 := decide_eq_false h4
          have e : rightB r s i o = false := by rw [Bool.eq_false_iff]; intro h; simp [rightB, bS, bR, bI, bO] at h; omega
          rw [e]
          clear h1 h2 h3 h4 e
          go_enter Tryz.func7, Tryz.ntmps7
          go_wp2
          go_ret
          exact retB' (by simp) (by go_grown)
      · skip
        have d1 := decide_eq_true h1; have d2 := decide_eq_true h2; have d3 := decide_eq_false h3
        have e : rightB r s i o = false := by rw [Bool.eq_false_iff]; intro h; simp [rightB, bS, bR, bI, bO] at h; omega
        rw [e]
        clear h1 h2 h3 e
        go_enter Tryz.func7, Tryz.ntmps7
        go_wp2
        go_ret
        exact retB' (by simp) (by go_grown)
    · skip
      have d1 := decide_eq_true h1; have d2 := decide_eq_false h2
      have e : rightB r s i o = false := by rw [Bool.eq_false_iff]; intro h; simp [rightB, bS, bR, bI, bO] at h; omega
      rw [e]
      clear h1 h2 e
      go_enter Tryz.func7, Tryz.ntmps7
      go_wp2
      go_ret
      exact retB' (by simp) (by go_grown)
  · skip
    have d1 := decide_eq_false h1
    have e : rightB r s i o = false := by rw [Bool.eq_false_iff]; intro h; simp [rightB, bS, bR, bI, bO] at h; omega
    rw [e]
    clear h1 e
    go_enter Tryz.func7, Tryz.ntmps7
    go_wp2
    go_ret
    exact retB' (by simp) (by go_grown)
set_option maxRecDepth 100000 in
theorem none_new {r s i o : Int} {w : World} {b : Nat} (h : ModAt r s i o w b) (hr : 1 ≤ r) : Calls Tryz.prog 20 #[.pointer (some ⟨b, 0, none⟩)] w (Ret w (IsB false)) := by
  obtain ⟨c0, c1, c2, c3, c4, _⟩ := h
  have dr : (r == 0) = false := by rw [beq_eq_false_iff_ne]; omega
  have dr2 : decide (r = 0) = false := decide_eq_false (by omega)
  have HR := Lib.hid hr
  clear hr
  go_enter Tryz.func20, Tryz.ntmps20
  go_wp2
  go_ret
  exact retB' (by have := HR.out; first | (simp; done) | (simp; omega)) (Below.refl _ _)
set_option maxRecDepth 100000 in
theorem clone_nil (w : World) : Calls Tryz.prog 21 #[.slice none 0 0] w (Ret w (Is (.slice none 0 0))) := by
  have he : ∀ w, (binOp .eql 30 (.slice none 0 0) (.slice none 0 0)).run Tryz.prog w = .ok (.bool true) w := fun w => by kernel_rfl
  go_enter Tryz.func21, Tryz.ntmps21
  go_wp2
  go_ret
  exact ⟨_, rfl, Below.refl _ _, rfl⟩
set_option maxRecDepth 100000 in
theorem carts_new {r s i o : Int} {w : World} {b : Nat} (h : ModAt r s i o w b) (hr : 1 ≤ r) : Calls Tryz.prog 9 #[.pointer (some ⟨b, 0, none⟩)] w (Ret w (Is (.slice none 0 0))) := by
  have N := Lib.hid (none_new h hr)
  have C4 := Lib.hid h.2.2.2.2.1
  clear h hr
  go_enter Tryz.func9, Tryz.ntmps9
  go_wp2_with fail
  refine N.out.mono ?_
  rintro _ w1 ⟨_, rfl, hb1, rfl⟩
  have c4 := cellKeep hb1 C4.out
  have HB := Lib.hid hb1
  clear hb1
  go_wp2_with fail
  refine (clone_nil _).mono ?_
  rintro _ w2 ⟨_, rfl, hb2, rfl⟩
  have HB2 := Lib.hid (HB.out.le hb2)
  clear hb2 c4
  go_wp2
  refine wp_loop_rounds 1 ?_
  rw [rounds_succ]
  go_wp2
  go_ret
  exact ⟨_, rfl, HB2.out, rfl⟩
end Go.Proofs.YtapplibdoioojaaGreatDoor

/-
  Runs of calls of OpMerge on a new model.
-/
namespace Go.Proofs.YtapplibdoioojaaGreatDoor
open Go.RowKit
namespace V
noncomputable def isVal (x : R Res) (v : Value) : Bool := match x with | .ok r => r.wr.isEmpty && sameV 6 r.v v | .no _ => false
theorem isVal_ok {x : R Res} {v : Value} (h : isVal x v = true) : ∃ r, x = .ok r ∧ r.wr = [] ∧ r.v = v := by
  unfold isVal at h
  cases x with
  | no s => cases h
  | ok r =>
    simp only [Bool.and_eq_true, List.isEmpty_iff] at h
    exact ⟨r, rfl, h.1, sameV_ok _ _ _ h.2⟩
end V
abbrev SatG (w : World) : Prop := V.Sat 400 V.still (V.lk G0) w ∧ V.WF 400 (V.lk G0) 400
theorem sat_keep {w w' : World} (hs : SatG w) (hb : Below w.heap.size w w') : SatG w' := ⟨V.sat_below hs.1 hb, hs.2⟩
def c9L : Value := .agg ⟨[.int .i64 (.ofNat 9), .string ⟨⟨[]⟩⟩, .string ⟨⟨[]⟩⟩, .string ⟨⟨[]⟩⟩, .int .i64 (.ofNat 0), .slice none 0 0]⟩
def modC : List Value := [.int .i64 (.ofNat 1), .int .i64 (.ofNat 1), .int .i64 (.ofNat 1), .int .i64 (.ofNat 1), .slice none 0 0, .int .i64 (.ofNat 1024), .int .i64 (.ofNat 0), .slice none 0 0, .slice none 0 0, .slice none 0 0, .bool false]
def a9L : Value := .tuple ⟨[.agg ⟨[.int .i64 (.ofNat 9), .int .i64 (.ofNat 0), .int .i64 (.ofNat 0), .slice none 0 0, .slice none 0 0]⟩, .int .i64 (.ofNat 0)]⟩
theorem formed_run : V.isTrue (V.callT Tryz.prog 400 MM V.noTab 2000 100 25 [c9L] G0 400) = true := by kernel_rfl
theorem formed_body : ((Tryz.prog.funcs[25]?).bind Func.body).isSome = true := by kernel_rfl
set_option maxRecDepth 100000 in
theorem do_run : V.isVal (V.callT Tryz.prog 400 MM V.noTab 2000 100 19 [.pointer (some ⟨400, 0, none⟩), c9L] ((400, .cells modC 44 11 false) :: G0) 401) a9L = true := by kernel_rfl
theorem do_body : ((Tryz.prog.funcs[19]?).bind Func.body).isSome = true := by kernel_rfl
abbrev c9 : Value := .agg #[.int .i64 9, .string ⟨#[]⟩, .string ⟨#[]⟩, .string ⟨#[]⟩, .int .i64 0, .slice none 0 0]
abbrev a9 : Value := .agg #[.int .i64 9, .int .i64 0, .int .i64 0, .slice none 0 0, .slice none 0 0]
theorem cFormed {w : World} (hs : SatG w) : Calls Tryz.prog 25 #[.agg #[.int .i64 9, .string ⟨#[]⟩, .string ⟨#[]⟩, .string ⟨#[]⟩, .int .i64 0, .slice none 0 0]] w (Ret w (IsB true)) :=
  V.trueH (V.callT_ok mixed_ok funcs_ok MMok V.noTab_ok 2000 100) funcs_ok formed_run rfl formed_body hs
/-- A model as New makes it of four ones. -/
def FreshM (w : World) (K : Nat) : Prop := w.heap[K]? = some (.cells modC.toArray 44)
theorem FreshM.mono {w w' : World} {K : Nat} (h : FreshM w K) (hb : Below w.heap.size w w') : FreshM w' K := (hb.block K (Array.getElem?_eq_some_iff.1 h).1).trans h
theorem cDo {w : World} {K : Nat} (hs : SatG w) (hK : FreshM w K) : Calls Tryz.prog 19 #[.pointer (some ⟨K, 0, none⟩), .agg #[.int .i64 9, .string ⟨#[]⟩, .string ⟨#[]⟩, .string ⟨#[]⟩, .int .i64 0, .slice none 0 0]] w (Ret w (Is (.tuple #[.agg #[.int .i64 9, .int .i64 0, .int .i64 0, .slice none 0 0, .slice none 0 0], .int .i64 0]))) := by
  obtain ⟨r, hr, hwr, hv⟩ := V.isVal_ok do_run
  have h1 := V.sat_one (K := K) (e := 44) (es := 11) hs (by kernel_rfl) hK (fun i o ho e => by
    have ha := hs.1.at_ i o ho
    subst e
    have hg := V.lk_ok.1 ho
    unfold G0 V.get at hg
    split at hg
    · cases hg
      obtain ⟨c, fr, g1, _⟩ := ha
      have g2 : w.heap[i]? = some (.cells c 130 fr) := g1
      rw [hK] at g2
      cases g2
    · cases hg)
  have := V.valH (V.callT_ok mixed_ok funcs_ok MMok V.noTab_ok 2000 100) funcs_ok hr (by kernel_rfl) do_body hwr (by rw [hv]; kernel_rfl) h1
  rw [hv] at this
  have e1 : V.ren (V.at1 400 K) (.pointer (some ⟨400, 0, none⟩)) = .pointer (some ⟨K, 0, none⟩) := by simp [V.ren, V.ra, V.at1]
  have e2 : V.ren (V.at1 400 K) c9L = c9L := V.ren_closed (fun _ h => V.at1_low h) (by kernel_rfl : V.below 400 V.deep c9L = true)
  simp only [List.map_cons, List.map_nil, e1, e2] at this
  exact this
end Go.Proofs.YtapplibdoioojaaGreatDoor

/-
  model.Run of calls of OpMerge on a new model.
-/
namespace Go.Proofs.YtapplibdoioojaaGreatDoor
open Go.RowKit
theorem enc_run : V.isTrue (V.callT Tryz.prog 400 MM V.noTab 2000 100 25 [c9L] G0 400) = true := formed_run
abbrev c9C : List Value := [.int .i64 9, .string ⟨#[]⟩, .string ⟨#[]⟩, .string ⟨#[]⟩, .int .i64 0, .slice none 0 0]
/-- n calls of OpMerge. -/
abbrev Merges (w : World) (g n : Nat) : Prop := Arr w g n 6 (fun _ => c9C)
theorem Merges.cells {w : World} {g n : Nat} (h : Merges w g n) {k : Nat} (hk : k < n) : w.cell? ⟨g, k * 6, none⟩ = some (.int .i64 9) ∧ w.cell? ⟨g, k * 6 + 1, none⟩ = some (.string ⟨#[]⟩) ∧ w.cell? ⟨g, k * 6 + 2, none⟩ = some (.string ⟨#[]⟩) ∧ w.cell? ⟨g, k * 6 + 3, none⟩ = some (.string ⟨#[]⟩) ∧ w.cell? ⟨g, k * 6 + 4, none⟩ = some (.int .i64 0) ∧ w.cell? ⟨g, k * 6 + 5, none⟩ = some (.slice none 0 0) :=
  ⟨h.at_ k hk 0 _ rfl, h.at_ k hk 1 _ rfl, h.at_ k hk 2 _ rfl, h.at_ k hk 3 _ rfl, h.at_ k hk 4 _ rfl, h.at_ k hk 5 _ rfl⟩
theorem cRun1 {w : World} (hs : SatG w) : Calls Tryz.prog 24 #[.agg #[.int .i64 9, .string ⟨#[]⟩, .string ⟨#[]⟩, .string ⟨#[]⟩, .int .i64 0, .slice none 0 0]] w (Ret w (IsB false)) := by
  have HS := Lib.hid hs
  clear hs
  go_enter Tryz.func24, Tryz.ntmps24
  go_wp2_with fail
  refine (cFormed (sat_keep HS.out (by go_grown))).mono ?_
  rintro _ w1 ⟨_, rfl, hb1, rfl⟩
  have hb := (show Below w.heap.size w (w.alloc (.cells #[.int .i64 9, .string ⟨#[]⟩, .string ⟨#[]⟩, .string ⟨#[]⟩, .int .i64 0, .slice none 0 0] 36)) by go_grown).le hb1
  go_wp2
  go_ret
  exact retB' rfl hb
def IRel (w : World) (n : Nat) (i : Value) (wr : World) : Prop := ∃ k : Nat, i = .int .i64 k ∧ k ≤ n ∧ Below w.heap.size w wr
set_option maxRecDepth 100000 in
theorem cIndex {w : World} {g n c : Nat} (hs : SatG w) (h : Merges w g n) (hn : n ≤ 2000) : Calls Tryz.prog 39 #[.slice (some ⟨g, 0, none⟩) n c, .func (.func 24) #[] #[]] w (Ret w (IsI (-1))) := by
  have HS := Lib.hid hs; have H := Lib.hid h
  have HBG : n ≤ 9223372036854775807 := by omega
  clear hs h
  go_enter Tryz.func39, Tryz.ntmps39
  go_wp2
  go_loopw [8] (fun i wr => IRel w n i wr) (fun i _ => n - (intOf i).toNat)
  case atStart => exact ⟨0, rfl, Nat.zero_le _, Below.refl _ _⟩
  case round =>
    obtain ⟨k, rfl, hk, hb⟩ := hrel
    have HB := Lib.hid hb
    by_cases hlt : k < n
    · obtain ⟨e0, e1, e2, e3, e4, e5⟩ := Merges.cells (H.out.mono hb) hlt
      clear hb
      go_wp2_with fail
      refine (cRun1 (sat_keep HS.out HB.out)).mono ?_
      rintro _ w1 ⟨_, rfl, hb1, rfl⟩
      have HB1 := Lib.hid (HB.out.le hb1)
      clear hb1 e0 e1 e2 e3 e4 e5
      go_wp2
      go_roundw
      case rel => exact ⟨k + 1, by simp, hlt, HB1.out⟩
      case measure => simp [intOf]; omega
    · have hkn : k = n := by omega
      subst hkn
      clear hb
      go_wp2
      go_ret
      exact ⟨_, rfl, HB.out, rfl⟩
theorem cContains {w : World} {g n c : Nat} (hs : SatG w) (h : Merges w g n) (hn : n ≤ 2000) : Calls Tryz.prog 23 #[.slice (some ⟨g, 0, none⟩) n c, .func (.func 24) #[] #[]] w (Ret w (IsB false)) := by
  have C := Lib.hid (cIndex (c := c) hs h hn)
  clear hs h hn
  go_enter Tryz.func23, Tryz.ntmps23
  go_wp2_with fail
  refine C.out.mono ?_
  rintro _ w1 ⟨_, rfl, hb1, rfl⟩
  go_wp2
  go_ret
  exact retB' (by simp) hb1
/-- An own row of k answers. -/
def ARow (w : World) (B : Nat) (u : Value) (k : Nat) : Prop := ∃ xs, w.ownsRow B 50 5 u k xs
theorem ARow.nil_ (w : World) (B : Nat) : ARow w B (.slice none 0 0) 0 := ⟨[], World.ownsRow_nil w B _ 5⟩
theorem ARow.mono {w w' : World} {B k : Nat} {u : Value} (h : ARow w B u k) (hb : Below w.heap.size w w') : ARow w' B u k := by
  obtain ⟨xs, h1, h2⟩ := h
  refine ⟨xs, h1, ?_⟩
  rcases h2 with h2 | ⟨g, cap, cur, hv, hg, hh, r⟩
  · exact .inl h2
  · exact .inr ⟨g, cap, cur, hv, hg, (hb.block g (Array.getElem?_eq_some_iff.1 hh).1).trans hh, r⟩
theorem ARow.slice {w : World} {B k : Nat} {u : Value} (h : ARow w B u k) : ∃ A c, u = .slice A k c := by
  obtain ⟨xs, h1, h2⟩ := h
  rcases h2 with ⟨rfl, h0⟩ | ⟨g, cap, cur, rfl, _⟩
  · subst h0; exact ⟨_, _, rfl⟩
  · exact ⟨_, _, rfl⟩
theorem ARow.own {w : World} {B k : Nat} {u : Value} (h : ARow w B u k) : ∀ q, u.ownBlock = some q → B ≤ q ∧ q < w.heap.size := by
  obtain ⟨xs, ho⟩ := h
  exact ho.lt
theorem info_ans : ∃ i : TypeInfo, ∃ bytes, Tryz.prog.info? 50 = some i ∧ i.zero = some (.agg #[.int .i64 0, .int .i64 0, .int .i64 0, .slice none 0 0, .slice none 0 0]) ∧ i.size = 5 ∧ i.bytes = bytes ∧ bytes ≤ 1000 := by
  obtain ⟨i, hi, hzz⟩ := Option.map_eq_some_iff.1 (show (Tryz.prog.info? 50).map (fun i => (i.zero, i.size, decide (i.bytes ≤ 1000))) = some (some (.agg #[.int .i64 0, .int .i64 0, .int .i64 0, .slice none 0 0, .slice none 0 0]), 5, true) by kernel_rfl)
  simp only [Prod.mk.injEq] at hzz
  exact ⟨i, i.bytes, hi, hzz.1, hzz.2.1, rfl, of_decide_eq_true hzz.2.2⟩
theorem wpList_appA {ops : Array Oper} {rest : List Oper} {o : Oper} {a : Act} {Q : Exit → Act → World → Prop} {s x : Operand} {t : TypeId} {w : World} {B b k : Nat} {u : Value} {cs : List Value}
    (hgd : o.guard = none) (ho : o.op = .call { callee := .builtin .append, args := #[s, x], argTypes := #[t, t] }) (ht : Tryz.prog.underlying t = some (.slice 50)) (hsv : a.eval s = u) (hxv : a.eval x = .slice (some ⟨b, 0, none⟩) 1 1)
    (h : ARow w B u k) (hl : cs.length = 5) (hr : w.rangeAt b 0 cs) (h1 : ∀ v ∈ cs, v.oneCell' = true) (hs : k + 1 ≤ 1000000) (hB : B ≤ w.heap.size)
    (K : ∀ u' w', ARow w' B u' (k + 1) → w.grownBy w' u.ownBlock → wpList Tryz.prog ops Q rest (a.put o.dst u') w') : wpList Tryz.prog ops Q (o :: rest) a w := by
  obtain ⟨i, bytes, hi, hz, hsz, hby, hle⟩ := info_ans
  obtain ⟨xs, hown⟩ := h
  refine wpList_append_own w hgd s x t ho B 50 i _ 5 bytes ht hi hz hsz hby rfl (by omega) u k xs hsv hown ⟨b, 0, none⟩ 1 1 cs hxv (by rw [hl]) (fun j v hj => ?_) h1 (by unfold maxLen; omega) ?_ hB ?_
  · rw [Addr.add_mid]; exact hr j v hj
  · have : (k + 1) * bytes ≤ 1000000 * 1000 := Nat.mul_le_mul hs hle
    omega
  · intro u' w' h2 hg _
    exact K u' w' ⟨_, h2⟩ hg
end Go.Proofs.YtapplibdoioojaaGreatDoor

/-
  ModelRuns: of any number, over the package variables as the program's text lays them, the law returns true.
-/
namespace Go.Proofs.YtapplibdoioojaaGreatDoor
open Go.RowKit
theorem FreshM.new {w : World} {b : Nat} (h : ModAt 1 1 1 1 w b) : FreshM w b := h.2.2.2.2.2
theorem none_fresh {w : World} {K : Nat} (h : ModAt 1 1 1 1 w K) : Calls Tryz.prog 20 #[.pointer (some ⟨K, 0, none⟩)] w (Ret w (IsB false)) := none_new h (by decide)
theorem cRunLong {w : World} {K : Nat} (h : ModAt 1 1 1 1 w K) (A : Option Addr) (n c : Nat) (hn : 1000 < n) (hb : n ≤ 9223372036854775807) : Calls Tryz.prog 10 #[.pointer (some ⟨K, 0, none⟩), .slice A n c] w (Ret w (Is (.tuple #[.slice none 0 0, .int .i64 5]))) := by
  have N := Lib.hid (none_fresh h)
  have d1 : decide ((1000 : Int) < (n : Int)) = true := decide_eq_true (by omega)
  clear h hn
  go_enter Tryz.func10, Tryz.ntmps10
  go_wp2_with fail
  refine N.out.mono ?_
  rintro _ w1 ⟨_, rfl, hb1, rfl⟩
  go_wp2
  refine bodyPost_ret (v := .tuple #[.slice none 0 0, .int .i64 5]) (by simp [results, Tryz.results10, go_sem]) rfl ?_
  exact ⟨_, rfl, hb1, rfl⟩
theorem box_range (x : World) (cs : Array Value) (e : TypeId) : (x.alloc (.cells cs e)).rangeAt x.heap.size 0 cs.toList := fun j v hj => by
  rw [Nat.zero_add, cell_of_row _ _ _ _ e (0, 0) (heap_alloc_new x _), ← Array.getElem?_toList]
  exact hj
def RunRel (w : World) (n : Nat) (u i : Value) (wr : World) : Prop := ∃ k : Nat, i = .int .i64 k ∧ k ≤ n ∧ Below w.heap.size w wr ∧ ARow wr w.heap.size u k
set_option maxRecDepth 100000 in
set_option maxHeartbeats 4000000 in
theorem cRun {w : World} {K g n c : Nat} (hs : SatG w) (hK : ModAt 1 1 1 1 w K) (h : Merges w g n) (hn : n ≤ 1000) : Calls Tryz.prog 10 #[.pointer (some ⟨K, 0, none⟩), .slice (some ⟨g, 0, none⟩) n c] w (Ret w (fun _ v => ∃ A d, v = .tuple #[.slice A n d, .int .i64 0])) := by
  have N := Lib.hid (none_fresh hK)
  have HS := Lib.hid hs; have HK := Lib.hid (FreshM.new hK); have H := Lib.hid h; have HN := Lib.hid hn
  have d1 : decide ((1000 : Int) < (n : Int)) = false := decide_eq_false (by omega)
  have HBG : n ≤ 9223372036854775807 := by omega
  clear hs hK h hn
  go_enter Tryz.func10, Tryz.ntmps10
  go_wp2_with fail
  refine N.out.mono ?_
  rintro _ w1 ⟨_, rfl, hb1, rfl⟩
  have HB1 := Lib.hid hb1
  clear hb1
  go_wp2_with fail
  refine (cContains (sat_keep HS.out HB1.out) (H.out.mono HB1.out) (by have := HN.out; omega)).mono ?_
  rintro _ w2 ⟨_, rfl, hb2, rfl⟩
  have HB2 := Lib.hid (HB1.out.le hb2)
  clear hb2 d1
  go_wp2
  go_loopw [6, 23] (fun u i wr => RunRel w n u i wr) (fun _ i _ => n - (intOf i).toNat)
  case atStart => exact ⟨0, rfl, Nat.zero_le _, HB2.out, ARow.nil_ _ _⟩
  case round =>
    obtain ⟨k, rfl, hk, hb, har⟩ := hrel
    have HB := Lib.hid hb; have HAR := Lib.hid har
    by_cases hlt : k < n
    · obtain ⟨e0, e1, e2, e3, e4, e5⟩ := Merges.cells (H.out.mono hb) hlt
      have HL := Lib.hid hlt
      clear hb har
      go_wp2_with fail
      have hx : Below wr.heap.size wr (wr.alloc (.cells #[.int .i64 9, .string ⟨#[]⟩, .string ⟨#[]⟩, .string ⟨#[]⟩, .int .i64 0, .slice none 0 0] 36)) := (Below.refl _ _).alloc (Nat.le_refl _) _
      refine (cDo (sat_keep HS.out (HB.out.le hx)) (HK.out.mono (HB.out.le hx))).mono ?_
      rintro _ w3 ⟨_, rfl, hb3, rfl⟩
      have HX := Lib.hid (hx.le hb3)
      clear hb3 hx e0 e1 e2 e3 e4 e5
      have h1 : Below w3.heap.size w3 ((w3.alloc (.cells #[.int .i64 9, .int .i64 0, .int .i64 0, .slice none 0 0, .slice none 0 0] 50)).alloc (.cells #[.int .i64 9, .int .i64 0, .int .i64 0, .slice none 0 0, .slice none 0 0] 50)) := by go_grown
      have hr := box_range (w3.alloc (.cells #[.int .i64 9, .int .i64 0, .int .i64 0, .slice none 0 0, .slice none 0 0] 50)) #[.int .i64 9, .int .i64 0, .int .i64 0, .slice none 0 0, .slice none 0 0] 50
      have hz : (w3.alloc (.cells #[.int .i64 9, .int .i64 0, .int .i64 0, .slice none 0 0, .slice none 0 0] 50)).heap.size = w3.heap.size + 1 := by simp
      rw [hz] at hr
      have RG := Lib.hid hr; have HB4 := Lib.hid (HB.out.le (HX.out.le h1)); have AR := Lib.hid (HAR.out.mono (HX.out.le h1))
      clear hr hz h1
      go_wp2_with (at_builtin; refine wpList_appA (B := w.heap.size) (k := k) rfl rfl Tryz.underlying37 rfl rfl AR.out rfl RG.out (by simp [Value.oneCell']) (by have := HN.out; have := HL.out; omega) HB4.out.size ?_; intro u9' w9 hr9 hg9; have AR9 := Lib.hid hr9; have HB9 := Lib.hid (HB4.out.grown hg9 HB4.out.size (fun q hq => (AR.out.own q hq).1)); clear hr9 hg9)
      go_roundw
      case rel => exact ⟨k + 1, by simp, HL.out, HB9.out, AR9.out⟩
      case measure => simp [intOf]; omega
    · have hkn : k = n := by omega
      subst hkn
      obtain ⟨A, d, rfl⟩ := har.slice
      clear hb har
      go_wp2
      refine bodyPost_ret (v := .tuple #[.slice A k d, .int .i64 0]) (by simp [results, Tryz.results10, go_sem]) rfl ?_
      exact ⟨_, rfl, HB.out, _, _, rfl⟩
def z6 : Array Value := #[.int .i64 0, .string ⟨#[]⟩, .string ⟨#[]⟩, .string ⟨#[]⟩, .int .i64 0, .slice none 0 0]
theorem info_call : (Tryz.prog.info? 36).map (fun i => (i.size, (i.zero.map Value.cells), decide (i.bytes ≤ 1000))) = some (6, some z6, true) := by kernel_rfl
theorem wpList_makeC {P : Program} (w : World) {ops : Array Oper} {rest : List Oper} {o : Oper} {a : Act} {Q : Exit → Act → World → Prop}
    (hg : o.guard = none) (l c : Operand) (hop : o.op = Op.makeSlice 32 l c) (hP : P = Tryz.prog) (L : Int) (n : Nat) (hl : a.eval l = .int .i64 L) (hc : a.eval c = .int .i64 L) (hL : L = (n : Int)) (hn : n ≤ 1000000)
    (hK : wpList P ops Q rest (a.put o.dst (.slice (some ⟨w.heap.size, 0, none⟩) n n)) (w.alloc (.cells (madeCells z6 (n * 6)) 36))) :
    wpList P ops Q (o :: rest) a w := by
  subst hP
  subst hL
  refine wpList_plain hg fun K hK' => ?_
  obtain ⟨i, hi, hzz⟩ := Option.map_eq_some_iff.1 info_call
  simp only [Prod.mk.injEq] at hzz
  obtain ⟨h1, h2, h3⟩ := hzz
  obtain ⟨z, hz, hz2⟩ := Option.map_eq_some_iff.1 h2
  have h4 : i.bytes ≤ 1000 := of_decide_eq_true h3
  have h5 : i.bytes * n ≤ 1000 * 1000000 := Nat.mul_le_mul h4 hn
  have hb' : (i.bytes : Int) * (n : Int) ≤ 281474976710656 := by
    have h : ((i.bytes * n : Nat) : Int) ≤ 281474976710656 := by omega
    rwa [Int.natCast_mul] at h
  have hrun := run_make (P := Tryz.prog) w 32 36 i z Tryz.underlying32 hi hz .i64 .i64 n n (by omega) (Int.le_refl _) hb' (by omega)
  simp only [Int.toNat_natCast, h1, hz2] at hrun
  unfold Oper.wp
  simp [execOp, hop, hl, hc, hrun, Result.andThen]
  exact hK' _ _ hK
theorem Halt_ (p : Prop) : p → p := id
def Halt (p : Prop) : Prop := p
theorem Halt.go {p : Prop} (h : Halt p) : p := h
theorem cast_world {P : Program} {Q : Exit → Act → World → Prop} {ops : Array Oper} {rest : List Oper} {a : Act} {W X : World} (e : W = X) (h : wpList P ops Q rest a W) : wpList P ops Q rest a X := e ▸ h
def CRel (w : World) (g n : Nat) (i : Value) (wr : World) : Prop := ∃ k : Nat, i = .int .i64 k ∧ k ≤ n ∧ Below w.heap.size w wr ∧ Arr wr g n 6 (fun j => if j < k then c9C else z6.toList)
set_option maxRecDepth 100000 in
set_option maxHeartbeats 4000000 in
theorem lawRuns (many : Int) (w : World) (hs : SatG w) (hk : V.Sat 400 V.still (V.lk G1) w ∧ V.WF 400 (V.lk G1) 400) : Calls Tryz.prog 4 #[.int .i64 many] w (Ret w (IsB true)) := by
  have HS := Lib.hid hs; have HK := Lib.hid hk
  clear hs hk
  by_cases h1 : many < 998
  · have d1 : decide (many < 998) = true := decide_eq_true h1
    have HB := Lib.hid (Below.refl w.heap.size w)
    clear h1
    go_enter Tryz.func4, Tryz.ntmps4
    go_wp2_with fail
    refine (known_true ⟨V.sat_below HK.out.1 HB.out, HK.out.2⟩).mono ?_
    rintro _ w9 ⟨_, rfl, hb9, rfl⟩
    have HB9 := Lib.hid (HB.out.le hb9)
    clear hb9
    go_wp2
    go_ret
    exact retB' rfl HB9.out
  by_cases h2 : 1002 < many
  · have d1 : decide (many < 998) = false := decide_eq_false h1
    have d2 : decide (1002 < many) = true := decide_eq_true h2
    have HB := Lib.hid (Below.refl w.heap.size w)
    clear h1 h2
    go_enter Tryz.func4, Tryz.ntmps4
    go_wp2_with fail
    refine (known_true ⟨V.sat_below HK.out.1 HB.out, HK.out.2⟩).mono ?_
    rintro _ w9 ⟨_, rfl, hb9, rfl⟩
    have HB9 := Lib.hid (HB.out.le hb9)
    clear hb9
    go_wp2
    go_ret
    exact retB' rfl HB9.out
  have d1 : decide (many < 998) = false := decide_eq_false h1
  have d2 : decide (1002 < many) = false := decide_eq_false h2
  obtain ⟨n, rfl⟩ : ∃ n : Nat, many = (n : Int) := ⟨many.toNat, by omega⟩
  have HN := Lib.hid (show 998 ≤ n ∧ n ≤ 1002 by omega)
  have HBG : n ≤ 9223372036854775807 := by omega
  have NM := Lib.hid (new_model 1 1 1 1 w)
  rw [show rightB 1 1 1 1 = true from by decide] at NM
  clear h1 h2
  go_enter Tryz.func4, Tryz.ntmps4
  go_wp2_with fail
  refine NM.out.mono ?_
  rintro _ w1 ⟨v1, rfl, hb1, hm1⟩
  obtain ⟨K, rfl, hm⟩ := hm1
  have HB1 := Lib.hid hb1; have HM := Lib.hid hm
  clear hb1 hm NM d1 d2
  go_wp2_with (first | (at_make; refine Halt.go ?_) | fail)
  unfold Halt
  refine wpList_makeC w1 rfl _ _ rfl rfl _ n rfl rfl rfl (by have := HN.out; omega) ?_
  simp only [Act.put, List.setIfInBounds_toArray, List.set_cons_zero, List.set_cons_succ]
  have arr : Arr (w1.alloc (.cells (madeCells z6 (n * 6)) 36)) w1.heap.size n 6 (fun _ => z6.toList) := Arr.made w1 z6 n 36 (by decide)
  have hb0 : Below w1.heap.size w1 (w1.alloc (.cells (madeCells z6 (n * 6)) 36)) := (Below.refl _ _).alloc (Nat.le_refl _) _
  generalize w1.alloc (.cells (madeCells z6 (n * 6)) 36) = W0 at *
  have ARR := Lib.hid arr; have HB0 := Lib.hid (HB1.out.le hb0); have HM0 := Lib.hid (HM.out.mono hb0); have GE := Lib.hid HB1.out.size; have H00 := Lib.hid hb0
  clear arr hb0
  go_wp2
  clear HM0 HB0 GE
  go_loopw [6] (fun i wr => CRel w1 w1.heap.size n i wr) (fun i _ => n - (intOf i).toNat)
  case atStart => exact ⟨0, rfl, Nat.zero_le _, H00.out, ARR.out.congr fun i _ => by simp⟩
  case round =>
    clear ARR H00
    obtain ⟨k, rfl, hk, hb, arr⟩ := hrel
    have ARR := Lib.hid arr; have HBL := Lib.hid hb
    clear arr hb
    by_cases hlt : k < n
    · have HLT := Lib.hid hlt
      obtain ⟨W2, hW2⟩ : ∃ W2, W2 = wr.setCells w1.heap.size (k * 6) [.int .i64 9, .string ⟨#[]⟩, .string ⟨#[]⟩, .string ⟨#[]⟩, .int .i64 0, .slice none 0 0] := ⟨_, rfl⟩
      have HST := Lib.hid (show Arr W2 w1.heap.size n 6 (fun j => if j = k then c9C else if j < k then c9C else z6.toList) from hW2 ▸ ARR.out.store hlt (cs := c9C) rfl)
      have HBW := Lib.hid (show Below w1.heap.size w1 W2 from hW2 ▸ belowCells (Nat.le_refl _) _ _ _ HBL.out)
      have HW2 := Lib.hid hW2
      clear hW2
      go_wp2_with (first
        | (refine wpList_store_mid rfl 36 _ _ rfl w1.heap.size (k * 6) #[.int .i64 9, .string ⟨#[]⟩, .string ⟨#[]⟩, .string ⟨#[]⟩, .int .i64 0, .slice none 0 0] rfl rfl (ARR.out.part HLT.out) (show (Tryz.prog.info? 36).map (·.size) = some 6 by kernel_rfl) (by simp [Value.oneCell']) ?_
           simp only [Act.put, List.setIfInBounds_toArray, List.set_cons_zero, List.set_cons_succ]
           refine cast_world HW2.out ?_)
        | fail)
      go_roundw
      case rel => exact ⟨k + 1, by simp, HLT.out, HBW.out, HST.out.congr fun i _ => by
        by_cases e : i = k
        · simp [e]
        · have : (i < k + 1) = (i < k) := by simp; omega
          simp [e, this]⟩
      case measure => simp [intOf]; omega
    · have hkn : k = n := by omega
      subst hkn
      clear hk hlt
      have MG := Lib.hid (show Merges wr w1.heap.size k from ARR.out.congr fun i hi => by simp [hi])
      have HMW := Lib.hid (HM.out.mono HBL.out)
      have HBW := Lib.hid (HB1.out.le HBL.out)
      clear ARR HBL HB1 HM
      by_cases hl : 1000 < k
      · have d3 : decide ((1000 : Int) < (k : Int)) = true := decide_eq_true (by omega)
        have HL := Lib.hid hl
        clear hl
        go_wp2_with fail
        refine (cRunLong HMW.out _ _ _ HL.out HBG).mono ?_
        rintro _ w5 ⟨_, rfl, hb5, rfl⟩
        have HB := Lib.hid (HBW.out.le hb5)
        clear hb5
        go_wp2_with fail
        refine (known_true ⟨V.sat_below HK.out.1 HB.out, HK.out.2⟩).mono ?_
        rintro _ w9 ⟨_, rfl, hb9, rfl⟩
        have HB9 := Lib.hid (HB.out.le hb9)
        clear hb9
        go_wp2
        go_ret
        exact retB' rfl HB9.out
      · have d3 : decide ((1000 : Int) < (k : Int)) = false := decide_eq_false (by omega)
        have HL := Lib.hid (show k ≤ 1000 by omega)
        clear hl
        go_wp2_with fail
        refine (cRun (sat_keep HS.out HBW.out) HMW.out MG.out HL.out).mono ?_
        rintro _ w5 ⟨_, rfl, hb5, A, d, rfl⟩
        have HB := Lib.hid (HBW.out.le hb5)
        clear hb5
        go_wp2_with fail
        refine (known_true ⟨V.sat_below HK.out.1 HB.out, HK.out.2⟩).mono ?_
        rintro _ w9 ⟨_, rfl, hb9, rfl⟩
        have HB9 := Lib.hid (HB.out.le hb9)
        clear hb9
        go_wp2
        go_ret
        exact retB' rfl HB9.out
theorem lawRuns2 (n : Int) (w : World) (hu : ∃ k e fr, w.heap[1]? = some (.cells #[.int .i64 k] e fr)) (hs : SatG w) : Calls Tryz.prog 4 #[.int .i64 n] w (Ret w (IsB true)) := by
  obtain ⟨k, e, fr, hk⟩ := hu
  exact lawRuns n w hs (V.sat_unk hs (by decide) hk)
end Go.Proofs.YtapplibdoioojaaGreatDoor

/-
  From a law's walk to its row: what was there stays.
-/
namespace Go.Proofs.YtapplibdoioojaaGreatDoor
open Go.ChangeShapes Go.WideShapes Go.ChangeAt Go.RowKit Go.Deep Go.Joins

section
variable {H : Type} {enc : TypeId × Value → H} {P : Program}
/-- Arguments that were read whole are read alike in a world in which all that was there is as it was. -/
theorem all_stay (hl : laidOutB P = true) {W W' : World} {sp' : Nat → Bool} : ∀ {ts : List TypeId} {vs : List Value} {ds : List (DataW H)} {ps : List MemPlace}, (∀ t ∈ ts, P.readableRec t = true ∧ t < P.types.size) →
    DataW.TrodAll enc P W 0 (fun _ => true) true ts vs ds ps → (∀ p ∈ ps, W.sameAt W' p) → (∀ p ∈ ps, sp' p.block = true) → DataW.TrodAll enc P W' 0 sp' true ts vs ds ps
  | [], _, _, _, _, h, _, _ => by
    obtain ⟨rfl, rfl, rfl⟩ := trodAll_nil h
    rfl
  | t :: ts, _, _, _, hr, h, hs, hp => by
    obtain ⟨v, vs, d, ds, a, b, rfl, rfl, rfl, h1, h2⟩ := trodAll_cons h
    have ht := hr t List.mem_cons_self
    exact ⟨a, b, Go.WideElems.Trod_stays hl ht.1 ht.2 h1 (fun p h => hs p (List.mem_append_left _ h)) (fun p h => hp p (List.mem_append_left _ h)),
      all_stay hl (fun t h => hr t (List.mem_cons_of_mem _ h)) h2 (fun p h => hs p (List.mem_append_right _ h)) (fun p h => hp p (List.mem_append_right _ h)), rfl⟩
/-- The row's last step for a law: it returned true, and nothing that was there has turned. -/
theorem law_post {f : Func} {s : ChangeSpec} {apart fresh handsOn again : Bool} {W W' : World} {args : Array Value} {ds : List (DataW H)} {before : List MemPlace} {tb : TypeId} (hl : laidOutB P = true)
    (hr0 : f.params.toList.all (fun t => P.readableRec t && decide (t < P.types.size)) = true) (hT : f.resultTypes = #[tb]) (hbt : P.underlying tb = some .bool) (hsv : s.vars = []) (hfn : s.fn H ds = { results := [.lit (.bool true)], args := ds })
    (hW : DataW.Whole enc P f.params.toList s.vars apart W args.toList ds [] before) (hb : Below W.heap.size W W') : s.post enc P f apart fresh handsOn again W args (.bool true) W' := by
  have hr : ∀ t ∈ f.params.toList, P.readableRec t = true ∧ t < P.types.size := fun t ht => by
    have := List.all_eq_true.1 hr0 t ht
    rw [Bool.and_eq_true] at this
    exact ⟨this.1, of_decide_eq_true this.2⟩
  obtain ⟨p, q, hA, hV, hps, hz, hn⟩ := id hW
  have hq : q = [] := by rw [hsv] at hV; exact hV
  subst hq
  rw [List.append_nil] at hps
  subst hps
  have hlt : ∀ x ∈ before, x.block < W.heap.size := fun x hx => hW.lt x hx
  have hsame : ∀ x ∈ before, W.sameAt W' x := fun x hx => hb.same (hlt x hx)
  have hres : ∀ (b : Nat) (sp : Nat → Bool) (hd : Bool), DataW.TrodAll enc P W' b sp hd f.resultTypes.toList ((Value.bool true).resultList f.resultTypes.size) [.lit (.bool true)] [] := by
    intro b sp hd
    rw [hT]
    exact trodAll_mk1 (shut_bool hbt _)
  refine ⟨ds, [], before, [], before, [], hW, ?_, ?_, ?_, World.keptBut_mono (fun x hx => ⟨hx, .inr (.inl hx)⟩) (hb.frame (· ∈ before)), fun _ => ⟨?_, ?_⟩⟩
  · rw [List.append_nil, hfn]; exact hres _ _ _
  · rw [List.append_nil, hfn]; exact all_stay hl hr hA hsame fun x hx => by simpa using hlt x hx
  · rw [List.append_nil, hfn, hsv]; rfl
  · exact ok_one hT rfl (okWide_bool_mk hbt _)
  · refine ⟨_, [], before, ⟨before, [], trodAll_append (p := []) (all_stay hl hr hA hsame fun _ _ => rfl) (hres _ _ _), by rw [hsv]; rfl, by simp, fun b off hp => ?_, hn⟩, fun x hx _ => hx⟩
    rw [hb.frozen (hlt _ hp)]
    exact hz b off hp
end

theorem own_none : ownKnob Tryz.prog.godebug = none := by kernel_rfl
theorem laid_out : laidOutB Tryz.prog = true := by kernel_rfl
end Go.Proofs.YtapplibdoioojaaGreatDoor

/-
  Calls and configurations that came in: what they read as; the variable bytealg.MaxLen holds a number.
-/
namespace Go.Proofs.YtapplibdoioojaaGreatDoor
open Go.ChangeShapes Go.WideShapes Go.ChangeAt Go.RowKit Go.Deep Go.Joins
set_option maxRecDepth 100000
section
variable {H : Type} {enc : TypeId × Value → H} {w : World} {base : Nat} {held : Bool}
theorem cells_int : Tryz.prog.cellsOf 3 = 1 := by kernel_rfl
theorem cells_str : Tryz.prog.cellsOf 9 = 1 := by kernel_rfl
theorem cells_bytes : Tryz.prog.cellsOf 34 = 1 := by kernel_rfl
theorem cells_opk : Tryz.prog.cellsOf 33 = 1 := by kernel_rfl
theorem cells_call : Tryz.prog.cellsOf 36 = 6 := by kernel_rfl
theorem cells_conf : Tryz.prog.cellsOf 23 = 4 := by kernel_rfl
theorem list6 {α : Type} {cs : List α} (h : cs.length = 6) : ∃ a b c d e f, cs = [a, b, c, d, e, f] := by
  match cs, h with
  | [a, b, c, d, e, f], _ => exact ⟨a, b, c, d, e, f, rfl⟩
theorem list4 {α : Type} {cs : List α} (h : cs.length = 4) : ∃ a b c d, cs = [a, b, c, d] := by
  match cs, h with
  | [a, b, c, d], _ => exact ⟨a, b, c, d, rfl⟩
theorem read_callP {r : Reach} {b0 : Nat} {v : Value} {d : DataW H} {p : List MemPlace} (hv : Value.okWide Tryz.prog w r b0 36 v) (h : DataW.Trod enc Tryz.prog w base (fun _ => true) held 36 v d p) : ∃ x : CallP, v = x.v := by
  obtain ⟨⟨cs⟩, rfl, hsz⟩ := okWide_struct Tryz.underlying36 hv
  rw [cells_call] at hsz
  obtain ⟨v0, v1, v2, v3, v4, v5, rfl⟩ := list6 (show cs.length = 6 from hsz)
  obtain ⟨fuel, hf⟩ := h
  obtain ⟨xs, k, _, _, hl, hxl, hf⟩ := DataW.trod_struct Tryz.underlying36 hf
  match xs, hxl with
  | [y0, y1, y2, y3, y4, y5], _ =>
    have g0 := hf 0 _ rfl
    have g1 := hf 1 _ rfl
    have g2 := hf 2 _ rfl
    have g3 := hf 3 _ rfl
    have g4 := hf 4 _ rfl
    have g5 := hf 5 _ rfl
    simp [cells_int, cells_str, cells_bytes, cells_opk, Value.cells] at g0 g1 g2 g3 g4 g5
    obtain ⟨o, e0, _⟩ := DataW.trod_int Tryz.underlying33 g0
    obtain ⟨s1, e1, _⟩ := DataW.trod_string Tryz.underlying9 g1
    obtain ⟨s2, e2, _⟩ := DataW.trod_string Tryz.underlying9 g2
    obtain ⟨s3, e3, _⟩ := DataW.trod_string Tryz.underlying9 g3
    obtain ⟨q, e4, _⟩ := DataW.trod_int Tryz.underlying3 g4
    simp at e0 e1 e2 e3 e4
    subst e0; subst e1; subst e2; subst e3; subst e4
    rcases open_slice Tryz.underlying34 g5 with ⟨h1, _⟩ | ⟨a, len, cap, m, n, D, Pl, h1, _⟩
    · cases h1
      exact ⟨⟨o, s1, s2, s3, q, none, 0, 0⟩, rfl⟩
    · cases h1
      exact ⟨⟨o, s1, s2, s3, q, some a, len, cap⟩, rfl⟩
theorem read_conf {r : Reach} {b0 : Nat} {v : Value} {d : DataW H} {p : List MemPlace} (hv : Value.okWide Tryz.prog w r b0 23 v) (h : DataW.Trod enc Tryz.prog w base (fun _ => true) held 23 v d p) :
    ∃ a b c e : Int, v = .agg #[.int .i64 a, .int .i64 b, .int .i64 c, .int .i64 e] := by
  obtain ⟨⟨cs⟩, rfl, hsz⟩ := okWide_struct Tryz.underlying23 hv
  rw [cells_conf] at hsz
  obtain ⟨v0, v1, v2, v3, rfl⟩ := list4 (show cs.length = 4 from hsz)
  obtain ⟨fuel, hf⟩ := h
  obtain ⟨xs, k, _, _, hl, hxl, hf⟩ := DataW.trod_struct Tryz.underlying23 hf
  match xs, hxl with
  | [y0, y1, y2, y3], _ =>
    have g0 := hf 0 _ rfl
    have g1 := hf 1 _ rfl
    have g2 := hf 2 _ rfl
    have g3 := hf 3 _ rfl
    simp [cells_int, Value.cells] at g0 g1 g2 g3
    obtain ⟨a, e0, _⟩ := DataW.trod_int Tryz.underlying3 g0
    obtain ⟨b, e1, _⟩ := DataW.trod_int Tryz.underlying3 g1
    obtain ⟨c, e2, _⟩ := DataW.trod_int Tryz.underlying3 g2
    obtain ⟨e, e3, _⟩ := DataW.trod_int Tryz.underlying3 g3
    simp at e0 e1 e2 e3
    subst e0; subst e1; subst e2; subst e3
    exact ⟨a, b, c, e, rfl⟩
end
theorem row_max : (((begin Tryz.prog (fun _ _ => 0) default).world.heap[1]?).bind Obj.row?).map (fun r => (r.1.size, r.2)) = some (1, 3) := by kernel_rfl
theorem types_int : Tryz.prog.cellTypes Tryz.prog.depth 3 = some [3] := by kernel_rfl
theorem unk_lies {w : World} (hs : w.ShapedOpen Tryz.prog) : ∃ k e fr, w.heap[1]? = some (.cells #[.int .i64 k] e fr) := by
  obtain ⟨⟨z, t⟩, hz, he⟩ := Option.map_eq_some_iff.1 row_max
  simp only [Prod.mk.injEq] at he
  obtain ⟨h1, rfl⟩ := he
  obtain ⟨cs, hc, hsz, hok⟩ := hs.1 _ z _ (by decide +kernel) hz
  obtain ⟨ts, e1, _, hcell⟩ := hok (by kernel_rfl)
  rw [types_int] at e1
  obtain rfl := Option.some.inj e1
  have hsz1 : cs.size = 1 := hsz.trans h1
  obtain ⟨l⟩ := cs
  match l, hsz1 with
  | [u], _ =>
    obtain ⟨t', ht', hu⟩ := hcell 0 u rfl
    have : t' = 3 := by simpa using ht'.symm
    subst this
    unfold Cell.ok at hu
    rw [Tryz.underlying3] at hu
    cases u with
    | int k' n => obtain ⟨rfl, _⟩ := hu; exact ⟨n, _, _, hc⟩
    | _ => exact hu.elim
end Go.Proofs.YtapplibdoioojaaGreatDoor
