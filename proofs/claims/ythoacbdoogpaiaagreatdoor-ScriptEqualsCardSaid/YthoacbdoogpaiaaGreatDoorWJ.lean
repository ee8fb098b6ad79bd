/-
  From a law's walk to its row: what was there stays.
-/
import Derived.Test.YthoacbdoogpaiaaGreatDoorWA
import Derived.Test.YthoacbdoogpaiaaGreatDoorRows
import Derived.ProofKit
import Derived.WideKeyArgs
import Derived.Deep.SlicePairs
import Derived.Lib.SmallJoins
import Derived.KernelRfl
import Derived.Laws.OwnMore
import Derived.Maps.AppendAt
import Derived.Laws.BytesArg
import Derived.Deep.MidRow
import Derived.Test.YthoacbdoogpaiaaGreatDoorWI
import Derived.Test.YthoacbdoogpaiaaGreatDoorCards
import Derived.Test.YthoacbdoogpaiaaGreatDoorTie
import Derived.OpenShut
import Derived.LaidMore
import Derived.Lay
import Derived.SevenTiedAt
import Derived.Stop.Joined
set_option linter.unusedSectionVars false
set_option linter.unusedVariables false
set_option linter.unusedSimpArgs false
namespace Go.Proofs.YthoacbdoogpaiaaGreatDoor
open Go.ChangeShapes Go.WideShapes Go.ChangeAt Go.RowKit Go.Deep Go.Joins

section
variable {H : Type} {enc : TypeId × Value → H} {P : Program}
/-- Arguments that were read whole are read alike in a world in which all that was there is as it was. -/
theorem all_stay (hl : laidOutB P = true) {W W' : World} {sp' : Nat → Bool} : ∀ {ts : List TypeId} {vs : List Value} {ds : List (DataW H)} {ps : List MemPlace}, (∀ t ∈ ts, P.readableRec t = true ∧ t < P.types.size) →
    DataW.TrodAll enc P W 0 (fun _ => true) true ts vs ds ps → (∀ p ∈ ps, W.sameAt W' p) → (∀ p ∈ ps, sp' p.block = true) → DataW.TrodAll enc P W' 0 sp' true ts vs ds ps
  | [], _, _, _, _, h, _, _ => by
    obtain ⟨rfl, rfl, rfl⟩ := trodAll_nil h
    rfl
  | t :: ts, _, _, _, hr, h, hs, hp => by
    obtain ⟨v, vs, d, ds, a, b, rfl, rfl, rfl, h1, h2⟩ := trodAll_cons h
    have ht := hr t List.mem_cons_self
    exact ⟨a, b, Go.WideElems.Trod_stays hl ht.1 ht.2 h1 (fun p h => hs p (List.mem_append_left _ h)) (fun p h => hp p (List.mem_append_left _ h)),
      all_stay hl (fun t h => hr t (List.mem_cons_of_mem _ h)) h2 (fun p h => hs p (List.mem_append_right _ h)) (fun p h => hp p (List.mem_append_right _ h)), rfl⟩
/-- The row's last step for a law: it returned true, and nothing that was there has turned. -/
theorem law_post {f : Func} {s : ChangeSpec} {apart fresh handsOn again : Bool} {W W' : World} {args : Array Value} {ds : List (DataW H)} {before : List MemPlace} {tb : TypeId} (hl : laidOutB P = true)
    (hr0 : f.params.toList.all (fun t => P.readableRec t && decide (t < P.types.size)) = true) (hT : f.resultTypes = #[tb]) (hbt : P.underlying tb = some .bool) (hsv : s.vars = []) (hfn : s.fn H ds = { results := [.lit (.bool true)], args := ds })
    (hW : DataW.Whole enc P f.params.toList s.vars apart W args.toList ds [] before) (hb : Below W.heap.size W W') : s.post enc P f apart fresh handsOn again W args (.bool true) W' := by
  have hr : ∀ t ∈ f.params.toList, P.readableRec t = true ∧ t < P.types.size := fun t ht => by
    have := List.all_eq_true.1 hr0 t ht
    rw [Bool.and_eq_true] at this
    exact ⟨this.1, of_decide_eq_true this.2⟩
  obtain ⟨p, q, hA, hV, hps, hz, hn⟩ := id hW
  have hq : q = [] := by rw [hsv] at hV; exact hV
  subst hq
  rw [List.append_nil] at hps
  subst hps
  have hlt : ∀ x ∈ before, x.block < W.heap.size := fun x hx => hW.lt x hx
  have hsame : ∀ x ∈ before, W.sameAt W' x := fun x hx => hb.same (hlt x hx)
  have hres : ∀ (b : Nat) (sp : Nat → Bool) (hd : Bool), DataW.TrodAll enc P W' b sp hd f.resultTypes.toList ((Value.bool true).resultList f.resultTypes.size) [.lit (.bool true)] [] := by
    intro b sp hd
    rw [hT]
    exact trodAll_mk1 (shut_bool hbt _)
  refine ⟨ds, [], before, [], before, [], hW, ?_, ?_, ?_, World.keptBut_mono (fun x hx => ⟨hx, .inr (.inl hx)⟩) (hb.frame (· ∈ before)), fun _ => ⟨?_, ?_⟩⟩
  · rw [List.append_nil, hfn]; exact hres _ _ _
  · rw [List.append_nil, hfn]; exact all_stay hl hr hA hsame fun x hx => by simpa using hlt x hx
  · rw [List.append_nil, hfn, hsv]; rfl
  · exact ok_one hT rfl (okWide_bool_mk hbt _)
  · refine ⟨_, [], before, ⟨before, [], trodAll_append (p := []) (all_stay hl hr hA hsame fun _ _ => rfl) (hres _ _ _), by rw [hsv]; rfl, by simp, fun b off hp => ?_, hn⟩, fun x hx _ => hx⟩
    rw [hb.frozen (hlt _ hp)]
    exact hz b off hp
end

theorem own_none : ownKnob Tryz.prog.godebug = none := by kernel_rfl
theorem laid_out : laidOutB Tryz.prog = true := by kernel_rfl
end Go.Proofs.YthoacbdoogpaiaaGreatDoor

/-
  The rules for the single operations, for the walk of XM.
-/
namespace Go.Proofs.YthoacbdoogpaiaaGreatDoor
open Go.RowKit

section
variable {P : Program} {ops : List Oper} {Fs : List VT} {w0 : World} {a0 : Act} {i : Nat} {o : Oper}

/-- The operand x has the property G whenever operation i comes up. -/
def Has (ops : List Oper) (Fs : List VT) (w0 : World) (a0 : Act) (i : Nat) (o : Oper) (x : Operand) (G : VT) : Prop := ∀ a w, Cx ops Fs w0 a0 i o a w → G w (a.eval x)
/-- Its guard, if it has one, lets it run. -/
def Wanted (ops : List Oper) (Fs : List VT) (w0 : World) (a0 : Act) (i : Nat) (o : Oper) : Prop := ∀ a w, Cx ops Fs w0 a0 i o a w → Region.wanted o (yielded ops.toArray a.tmps) = true

theorem Has.cst (v : Value) : Has ops Fs w0 a0 i o (.const v) (Is v) := fun _ _ _ => rfl
theorem Has.old {t : Tmp} {G : VT} (v : Value) (hn : (dstsOf ops).contains (some t) = false) (hv : a0.tmps.getD t undef = v) (hG : ∀ w, Below w0.heap.size w0 w → G w v) : Has ops Fs w0 a0 i o (.tmp t) G := fun a w cx => by
  have : a.eval (.tmp t) = v := (cx.old t (by simpa using hn)).trans hv
  rw [this]; exact hG w cx.le
theorem slot_of {a : Act} {t : Tmp} {v : Value} (h : a.tmps.toList[t]? = some v) : a.tmps.getD t undef = v := by rw [Array.getD_eq_getD_getElem?, ← Array.getElem?_toList, h]; rfl
theorem Has.oldIs {t : Tmp} {v : Value} (hn : (dstsOf ops).contains (some t) = false := by kernel_rfl) (hv : a0.tmps.toList[t]? = some v := by exact rfl) : Has ops Fs w0 a0 i o (.tmp t) (Is v) := Has.old v hn (slot_of hv) fun _ _ => rfl
theorem Has.late {t : Tmp} {v : Value} (j : Nat) {oj : Oper} (ho : ops[j]? = some oj := by exact rfl) (he : hasEdge oj i = true := by exact rfl) (hd : oj.dst = some t := by exact rfl) (hv : a0.tmps.toList[t]? = some v := by exact rfl) : Has ops Fs w0 a0 i o (.tmp t) (Is v) := fun _ _ cx => (cx.late j oj t ho he hd).trans (slot_of hv)
/-- The slot that operation j writes. -/
def dstAt (ops : List Oper) (j : Nat) : Option Tmp := (ops[j]?).bind (·.dst)
theorem back {RF : List VT} {j k : Nat} {G : VT} (hl : RF.length = j + k + 1) (hF : RF[k]? = some G) : RF.reverse[j]? = some G := by
  rw [List.getElem?_reverse (by omega), ← hF]; congr 1; omega
theorem dstAt_some {j : Nat} {t : Tmp} (h : dstAt ops j = some t) : ∃ oj, ops[j]? = some oj ∧ oj.dst = some t := by
  unfold dstAt at h
  cases ho : ops[j]? with
  | none => rw [ho] at h; cases h
  | some oj => rw [ho] at h; exact ⟨oj, rfl, h⟩
theorem Has.new {t : Tmp} {G : VT} {RF : List VT} (j k : Nat) (hF : RF[k]? = some G := by exact rfl) (hl : RF.length = j + k + 1 := by kernel_rfl) (hd : dstAt ops j = some t := by kernel_rfl) (he : hasEdge o j = true := by kernel_rfl) : Has ops RF.reverse w0 a0 i o (.tmp t) G := fun _ _ cx => by
  obtain ⟨oj, h1, h2⟩ := dstAt_some hd
  exact cx.new j oj t G he h1 h2 (back hl hF)
theorem Has.weak {x : Operand} {G H : VT} (h : Has ops Fs w0 a0 i o x G) (k : ∀ w v, G w v → H w v) : Has ops Fs w0 a0 i o x H := fun a w cx => k _ _ (h a w cx)

theorem Wanted.free (h : o.guard = none := by exact rfl) : Wanted ops Fs w0 a0 i o := fun _ _ _ => by simp [Region.wanted, h]
theorem wanted_of {j : Nat} {want b : Bool} {oj : Oper} {t : Tmp} {a : Act} {w : World} (hg : o.guard = some (j, want)) (ho : ops[j]? = some oj) (hd : oj.dst = some t) (hv : IsB b w (a.tmps.getD t undef)) : Region.wanted o (yielded ops.toArray a.tmps) = (b == want) := by
  have e : a.tmps[t]? = some (.bool b) := by
    have hv : a.tmps.getD t undef = .bool b := hv
    rw [Array.getD_eq_getD_getElem?] at hv
    cases h : a.tmps[t]? with
    | none => rw [h] at hv; simp at hv; cases hv
    | some u => rw [h] at hv; simp at hv; rw [hv]
  simp [Region.wanted, hg, yielded, ho, hd, e]
theorem Wanted.on {RF : List VT} (j k : Nat) {want : Bool} (hg : o.guard = some (j, want) := by exact rfl) (hF : RF[k]? = some (IsB want) := by exact rfl) (hl : RF.length = j + k + 1 := by kernel_rfl) (hd : (dstAt ops j).isSome = true := by kernel_rfl) (he : hasEdge o j = true := by kernel_rfl) : Wanted ops RF.reverse w0 a0 i o := fun a w cx => by
  obtain ⟨t, hd⟩ := Option.isSome_iff_exists.1 hd
  obtain ⟨oj, h1, h2⟩ := dstAt_some hd
  rw [wanted_of hg h1 h2 (cx.new j oj t _ he h1 h2 (back hl hF))]; simp

/-- The guard shuts it out: nothing is laid. -/
theorem Ob.off {RF : List VT} (j k : Nat) {want b : Bool} (hg : o.guard = some (j, want) := by exact rfl) (hF : RF[k]? = some (IsB b) := by exact rfl) (hl : RF.length = j + k + 1 := by kernel_rfl) (hd : (dstAt ops j).isSome = true := by kernel_rfl) (he : hasEdge o j = true := by kernel_rfl) (hne : (b == want) = false := by exact rfl) : Ob P ops RF.reverse w0 a0 i o (Is undef) := fun a w cx => by
  obtain ⟨t, hd⟩ := Option.isSome_iff_exists.1 hd
  obtain ⟨oj, h1, h2⟩ := dstAt_some hd
  rw [wanted_of hg h1 h2 (cx.new j oj t _ he h1 h2 (back hl hF)), hne]; exact rfl

/-- The guard's own operation was shut out. -/
theorem Ob.offU {RF : List VT} (j k : Nat) {want : Bool} (hg : o.guard = some (j, want) := by exact rfl) (hF : RF[k]? = some (Is undef) := by exact rfl) (hl : RF.length = j + k + 1 := by kernel_rfl) (hd : (dstAt ops j).isSome = true := by kernel_rfl) (he : hasEdge o j = true := by kernel_rfl) : Ob P ops RF.reverse w0 a0 i o (Is undef) := fun a w cx => by
  obtain ⟨t, hd⟩ := Option.isSome_iff_exists.1 hd
  obtain ⟨oj, ho, h2⟩ := dstAt_some hd
  have hv : a.tmps.getD t undef = undef := cx.new j oj t _ he ho h2 (back hl hF)
  have : Region.wanted o (yielded ops.toArray a.tmps) = false := by
    cases h : a.tmps[t]? with
    | none => simp [Region.wanted, hg, yielded, ho, h2, h]
    | some u =>
      rw [Array.getD_eq_getD_getElem?, h] at hv
      simp at hv
      subst hv
      simp [Region.wanted, hg, yielded, ho, h2, h, undef]
  rw [this]; exact rfl
theorem Ob.any {F : VT} (hw : Wanted ops Fs w0 a0 i o) (h : ∀ a w, Cx ops Fs w0 a0 i o a w → ∃ r w', (execOp a.eval o).run P w = .ok (.value r) w' ∧ Below w.heap.size w w' ∧ F w' r) : Ob P ops Fs w0 a0 i o F := fun a w cx => by
  rw [if_pos (hw a w cx)]
  obtain ⟨r, w', hr, hb, hF⟩ := h a w cx
  unfold Oper.wp
  rw [hr]
  exact ⟨r, rfl, hb, hF⟩
theorem Ob.stay {F : VT} (hw : Wanted ops Fs w0 a0 i o) (h : ∀ a w, Cx ops Fs w0 a0 i o a w → ∃ r, (execOp a.eval o).run P w = .ok (.value r) w ∧ F w r) : Ob P ops Fs w0 a0 i o F :=
  Ob.any hw fun a w cx => let ⟨r, h1, h2⟩ := h a w cx; ⟨r, w, h1, Below.refl _ _, h2⟩

variable {d : Option Tmp} {ty : TypeId} {pos : String} {after : Array Edge} {g : Option (Nat × Bool)}
theorem Ob.move {x : Operand} {F : VT} (hw : Wanted ops Fs w0 a0 i ⟨d, .move x, ty, pos, after, g⟩) (hx : Has ops Fs w0 a0 i ⟨d, .move x, ty, pos, after, g⟩ x F) : Ob P ops Fs w0 a0 i ⟨d, .move x, ty, pos, after, g⟩ F :=
  Ob.stay hw fun a w cx => ⟨_, by simp [execOp], hx a w cx⟩
theorem Ob.assign {x : Operand} {F : VT} (hw : Wanted ops Fs w0 a0 i ⟨d, .assign x, ty, pos, after, g⟩) (hx : Has ops Fs w0 a0 i ⟨d, .assign x, ty, pos, after, g⟩ x F) : Ob P ops Fs w0 a0 i ⟨d, .assign x, ty, pos, after, g⟩ F :=
  Ob.stay hw fun a w cx => ⟨_, by simp [execOp], hx a w cx⟩
theorem run_pick (ρ : Operand → Value) {c x y : Operand} {b : Bool} (h : ρ c = .bool b) (w : World) : (execOp ρ ⟨d, .pick c x y, ty, pos, after, g⟩).run P w = .ok (.value (if b then ρ x else ρ y)) w := by simp [execOp, asBool, h]
theorem run_not (ρ : Operand → Value) {x : Operand} {t : TypeId} {b : Bool} (h : ρ x = .bool b) (w : World) : (execOp ρ ⟨d, .unOp .not t x, ty, pos, after, g⟩).run P w = .ok (.value (.bool (!b))) w := by simp [execOp, h, go_sem]
theorem Ob.pickT {c x y : Operand} {F : VT} (hw : Wanted ops Fs w0 a0 i ⟨d, .pick c x y, ty, pos, after, g⟩) (hc : Has ops Fs w0 a0 i ⟨d, .pick c x y, ty, pos, after, g⟩ c (IsB true)) (hx : Has ops Fs w0 a0 i ⟨d, .pick c x y, ty, pos, after, g⟩ x F) : Ob P ops Fs w0 a0 i ⟨d, .pick c x y, ty, pos, after, g⟩ F :=
  Ob.stay hw fun a w cx => ⟨a.eval x, by rw [run_pick a.eval (hc a w cx)]; rfl, hx a w cx⟩
theorem Ob.pickF {c x y : Operand} {F : VT} (hw : Wanted ops Fs w0 a0 i ⟨d, .pick c x y, ty, pos, after, g⟩) (hc : Has ops Fs w0 a0 i ⟨d, .pick c x y, ty, pos, after, g⟩ c (IsB false)) (hy : Has ops Fs w0 a0 i ⟨d, .pick c x y, ty, pos, after, g⟩ y F) : Ob P ops Fs w0 a0 i ⟨d, .pick c x y, ty, pos, after, g⟩ F :=
  Ob.stay hw fun a w cx => ⟨a.eval y, by rw [run_pick a.eval (hc a w cx)]; rfl, hy a w cx⟩
theorem Ob.not {x : Operand} {b : Bool} {t : TypeId} (hw : Wanted ops Fs w0 a0 i ⟨d, .unOp .not t x, ty, pos, after, g⟩) (hx : Has ops Fs w0 a0 i ⟨d, .unOp .not t x, ty, pos, after, g⟩ x (IsB b)) : Ob P ops Fs w0 a0 i ⟨d, .unOp .not t x, ty, pos, after, g⟩ (IsB (!b)) :=
  Ob.stay hw fun a w cx => ⟨_, run_not a.eval (hx a w cx) w, rfl⟩
theorem Ob.load {x : Operand} {G F : VT} {t : TypeId} (hw : Wanted ops Fs w0 a0 i ⟨d, .load t x, ty, pos, after, g⟩) (hx : Has ops Fs w0 a0 i ⟨d, .load t x, ty, pos, after, g⟩ x G)
    (h : ∀ w v, Below w0.heap.size w0 w → G w v → ∃ r, (Instr.loadAt t v).run P w = .ok r w ∧ F w r) : Ob P ops Fs w0 a0 i ⟨d, .load t x, ty, pos, after, g⟩ F :=
  Ob.stay hw fun a w cx => by
    obtain ⟨r, h1, h2⟩ := h w _ cx.le (hx a w cx)
    exact ⟨r, by simp [execOp, h1], h2⟩
theorem Ob.fieldAddr {x : Operand} {G F : VT} {t : TypeId} {f : Nat} (hw : Wanted ops Fs w0 a0 i ⟨d, .fieldAddr t x f, ty, pos, after, g⟩) (hx : Has ops Fs w0 a0 i ⟨d, .fieldAddr t x f, ty, pos, after, g⟩ x G)
    (h : ∀ w v, Below w0.heap.size w0 w → G w v → ∃ r, (Instr.fieldAt t v f).run P w = .ok r w ∧ F w r) : Ob P ops Fs w0 a0 i ⟨d, .fieldAddr t x f, ty, pos, after, g⟩ F :=
  Ob.stay hw fun a w cx => by
    obtain ⟨r, h1, h2⟩ := h w _ cx.le (hx a w cx)
    exact ⟨r, by simp [execOp, h1], h2⟩
theorem Ob.extract {x : Operand} {G F : VT} {n : Nat} (hw : Wanted ops Fs w0 a0 i ⟨d, .extract x n, ty, pos, after, g⟩) (hx : Has ops Fs w0 a0 i ⟨d, .extract x n, ty, pos, after, g⟩ x G)
    (h : ∀ w v, Below w0.heap.size w0 w → G w v → ∃ r, (Instr.extract v n).run P w = .ok r w ∧ F w r) : Ob P ops Fs w0 a0 i ⟨d, .extract x n, ty, pos, after, g⟩ F :=
  Ob.stay hw fun a w cx => by
    obtain ⟨r, h1, h2⟩ := h w _ cx.le (hx a w cx)
    exact ⟨r, by simp [execOp, h1], h2⟩
theorem Ob.indexAddr {x y : Operand} {G H F : VT} {t : TypeId} (hw : Wanted ops Fs w0 a0 i ⟨d, .indexAddr t x y, ty, pos, after, g⟩) (hx : Has ops Fs w0 a0 i ⟨d, .indexAddr t x y, ty, pos, after, g⟩ x G) (hy : Has ops Fs w0 a0 i ⟨d, .indexAddr t x y, ty, pos, after, g⟩ y H)
    (h : ∀ w u v, Below w0.heap.size w0 w → G w u → H w v → ∃ r, (Instr.indexAt t u v).run P w = .ok r w ∧ F w r) : Ob P ops Fs w0 a0 i ⟨d, .indexAddr t x y, ty, pos, after, g⟩ F :=
  Ob.stay hw fun a w cx => by
    obtain ⟨r, h1, h2⟩ := h w _ _ cx.le (hx a w cx) (hy a w cx)
    exact ⟨r, by simp [execOp, h1], h2⟩
theorem Ob.bin {x y : Operand} {G H F : VT} {b : BinOp} {t t' : TypeId} (hw : Wanted ops Fs w0 a0 i ⟨d, .binOp b t x y t', ty, pos, after, g⟩) (hx : Has ops Fs w0 a0 i ⟨d, .binOp b t x y t', ty, pos, after, g⟩ x G) (hy : Has ops Fs w0 a0 i ⟨d, .binOp b t x y t', ty, pos, after, g⟩ y H)
    (h : ∀ w u v, Below w0.heap.size w0 w → G w u → H w v → ∃ r, (eqGuard b t x y u v).run P w = .ok () w ∧ (binOp b t u v).run P w = .ok r w ∧ F w r) : Ob P ops Fs w0 a0 i ⟨d, .binOp b t x y t', ty, pos, after, g⟩ F :=
  Ob.stay hw fun a w cx => by
    obtain ⟨r, h0, h1, h2⟩ := h w _ _ cx.le (hx a w cx) (hy a w cx)
    exact ⟨r, by simp [execOp, h0, h1], h2⟩
theorem Ob.buildSlice {F : VT} {t : TypeId} {n : Nat} {ps : Array (Nat × Operand)} (hw : Wanted ops Fs w0 a0 i ⟨d, .buildSlice t n ps, ty, pos, after, g⟩)
    (h : ∀ a w, Cx ops Fs w0 a0 i ⟨d, .buildSlice t n ps, ty, pos, after, g⟩ a w → ∃ r w', (Instr.buildSlice t n (ps.map fun (i, x) => (i, a.eval x))).run P w = .ok r w' ∧ Below w.heap.size w w' ∧ F w' r) : Ob P ops Fs w0 a0 i ⟨d, .buildSlice t n ps, ty, pos, after, g⟩ F :=
  Ob.any hw fun a w cx => by
    obtain ⟨r, w', h1, h2, h3⟩ := h a w cx
    exact ⟨r, w', by simp [execOp, h1], h2, h3⟩

theorem Ob.loadV {x : Operand} {p r : Value} {t : TypeId} (hw : Wanted ops Fs w0 a0 i ⟨d, .load t x, ty, pos, after, g⟩) (hx : Has ops Fs w0 a0 i ⟨d, .load t x, ty, pos, after, g⟩ x (Is p))
    (h : ∀ w, Below w0.heap.size w0 w → (Instr.loadAt t p).run P w = .ok r w) : Ob P ops Fs w0 a0 i ⟨d, .load t x, ty, pos, after, g⟩ (Is r) :=
  Ob.load hw hx fun w v hb e => ⟨r, by rw [show v = p from e]; exact h w hb, rfl⟩
theorem Ob.fieldV {x : Operand} {p r : Value} {t : TypeId} {f : Nat} (hw : Wanted ops Fs w0 a0 i ⟨d, .fieldAddr t x f, ty, pos, after, g⟩) (hx : Has ops Fs w0 a0 i ⟨d, .fieldAddr t x f, ty, pos, after, g⟩ x (Is p))
    (h : ∀ w, (Instr.fieldAt t p f).run P w = .ok r w) : Ob P ops Fs w0 a0 i ⟨d, .fieldAddr t x f, ty, pos, after, g⟩ (Is r) :=
  Ob.fieldAddr hw hx fun w v _ e => ⟨r, by rw [show v = p from e]; exact h w, rfl⟩
theorem Ob.indexV {x y : Operand} {p q r : Value} {t : TypeId} (hw : Wanted ops Fs w0 a0 i ⟨d, .indexAddr t x y, ty, pos, after, g⟩) (hx : Has ops Fs w0 a0 i ⟨d, .indexAddr t x y, ty, pos, after, g⟩ x (Is p)) (hy : Has ops Fs w0 a0 i ⟨d, .indexAddr t x y, ty, pos, after, g⟩ y (Is q))
    (h : ∀ w, (Instr.indexAt t p q).run P w = .ok r w) : Ob P ops Fs w0 a0 i ⟨d, .indexAddr t x y, ty, pos, after, g⟩ (Is r) :=
  Ob.indexAddr hw hx hy fun w u v _ e e' => ⟨r, by rw [show u = p from e, show v = q from e']; exact h w, rfl⟩
theorem Ob.binV {x y : Operand} {p q r : Value} {b : BinOp} {t t' : TypeId} (hw : Wanted ops Fs w0 a0 i ⟨d, .binOp b t x y t', ty, pos, after, g⟩) (hx : Has ops Fs w0 a0 i ⟨d, .binOp b t x y t', ty, pos, after, g⟩ x (Is p)) (hy : Has ops Fs w0 a0 i ⟨d, .binOp b t x y t', ty, pos, after, g⟩ y (Is q))
    (h : ∀ w, (eqGuard b t x y p q).run P w = .ok () w ∧ (Go.binOp b t p q).run P w = .ok r w) : Ob P ops Fs w0 a0 i ⟨d, .binOp b t x y t', ty, pos, after, g⟩ (Is r) :=
  Ob.bin hw hx hy fun w u v _ e e' => ⟨r, by rw [show u = p from e, show v = q from e']; exact (h w).1, by rw [show u = p from e, show v = q from e']; exact (h w).2, rfl⟩
theorem Ob.lenV {x : Operand} {p r : Value} {t : TypeId} (hw : Wanted ops Fs w0 a0 i ⟨d, .call ⟨.builtin .len, #[x], #[t]⟩, ty, pos, after, g⟩) (hx : Has ops Fs w0 a0 i ⟨d, .call ⟨.builtin .len, #[x], #[t]⟩, ty, pos, after, g⟩ x (Is p))
    (h : ∀ w, (Builtin.len_ #[t] ty #[p]).run P w = .ok r w) : Ob P ops Fs w0 a0 i ⟨d, .call ⟨.builtin .len, #[x], #[t]⟩, ty, pos, after, g⟩ (Is r) :=
  Ob.stay hw fun a w cx => ⟨r, by
    have h1 : a.eval x = p := hx a w cx
    have h2 := h w
    generalize a.eval = ρ at h1
    simp [execOp, resolve, invoke, builtin, h1, h2], rfl⟩
theorem run_call {f : FuncId} {args : Array Operand} {tys : Array TypeId} (he : Enters P f) (a : Act) (w : World) : (execOp a.eval ⟨d, .call ⟨.value (.func f), args, tys⟩, ty, pos, after, g⟩).run P w = .ok (.enter f (args.map a.eval)) w := by
  have := he (args.map a.eval) w
  simp [execOp, resolve, Act.eval, Deferred.ofValue, invoke, this]
theorem Ob.call {f : FuncId} {args : Array Operand} {tys : Array TypeId} {F : VT} (hw : Wanted ops Fs w0 a0 i ⟨d, .call ⟨.value (.func f), args, tys⟩, ty, pos, after, g⟩) (he : Enters P f)
    (h : ∀ a w, Cx ops Fs w0 a0 i ⟨d, .call ⟨.value (.func f), args, tys⟩, ty, pos, after, g⟩ a w → Calls P f (args.map a.eval) w (Ret w F)) : Ob P ops Fs w0 a0 i ⟨d, .call ⟨.value (.func f), args, tys⟩, ty, pos, after, g⟩ F := fun a w cx => by
  rw [if_pos (hw a w cx)]
  unfold Oper.wp
  rw [run_call he a w]
  refine (h a w cx).mono ?_
  rintro e w' ⟨v, rfl, hb, hF⟩
  exact ⟨v, rfl, hb, hF⟩
theorem Ob.call0 {f : FuncId} {tys : Array TypeId} {F : VT} (hw : Wanted ops Fs w0 a0 i ⟨d, .call ⟨.value (.func f), #[], tys⟩, ty, pos, after, g⟩) (he : Enters P f)
    (h : ∀ w, Below w0.heap.size w0 w → Calls P f #[] w (Ret w F)) : Ob P ops Fs w0 a0 i ⟨d, .call ⟨.value (.func f), #[], tys⟩, ty, pos, after, g⟩ F := Ob.call hw he fun a w cx => by rw [List.map_toArray]; exact h w cx.le
theorem Ob.call1 {f : FuncId} {tys : Array TypeId} {x : Operand} {G F : VT} (hw : Wanted ops Fs w0 a0 i ⟨d, .call ⟨.value (.func f), #[x], tys⟩, ty, pos, after, g⟩) (he : Enters P f)
    (hx : Has ops Fs w0 a0 i ⟨d, .call ⟨.value (.func f), #[x], tys⟩, ty, pos, after, g⟩ x G)
    (h : ∀ w v, Below w0.heap.size w0 w → G w v → Calls P f #[v] w (Ret w F)) : Ob P ops Fs w0 a0 i ⟨d, .call ⟨.value (.func f), #[x], tys⟩, ty, pos, after, g⟩ F := Ob.call hw he fun a w cx => by rw [List.map_toArray]; exact h w _ cx.le (hx a w cx)
theorem Ob.call2 {f : FuncId} {tys : Array TypeId} {x y : Operand} {G H F : VT} (hw : Wanted ops Fs w0 a0 i ⟨d, .call ⟨.value (.func f), #[x, y], tys⟩, ty, pos, after, g⟩) (he : Enters P f)
    (hx : Has ops Fs w0 a0 i ⟨d, .call ⟨.value (.func f), #[x, y], tys⟩, ty, pos, after, g⟩ x G) (hy : Has ops Fs w0 a0 i ⟨d, .call ⟨.value (.func f), #[x, y], tys⟩, ty, pos, after, g⟩ y H)
    (h : ∀ w u v, Below w0.heap.size w0 w → G w u → H w v → Calls P f #[u, v] w (Ret w F)) : Ob P ops Fs w0 a0 i ⟨d, .call ⟨.value (.func f), #[x, y], tys⟩, ty, pos, after, g⟩ F := Ob.call hw he fun a w cx => by rw [List.map_toArray]; exact h w _ _ cx.le (hx a w cx) (hy a w cx)
theorem Ob.call3 {f : FuncId} {tys : Array TypeId} {x y z : Operand} {G H K F : VT} (hw : Wanted ops Fs w0 a0 i ⟨d, .call ⟨.value (.func f), #[x, y, z], tys⟩, ty, pos, after, g⟩) (he : Enters P f)
    (hx : Has ops Fs w0 a0 i ⟨d, .call ⟨.value (.func f), #[x, y, z], tys⟩, ty, pos, after, g⟩ x G) (hy : Has ops Fs w0 a0 i ⟨d, .call ⟨.value (.func f), #[x, y, z], tys⟩, ty, pos, after, g⟩ y H) (hz : Has ops Fs w0 a0 i ⟨d, .call ⟨.value (.func f), #[x, y, z], tys⟩, ty, pos, after, g⟩ z K)
    (h : ∀ w u v s, Below w0.heap.size w0 w → G w u → H w v → K w s → Calls P f #[u, v, s] w (Ret w F)) : Ob P ops Fs w0 a0 i ⟨d, .call ⟨.value (.func f), #[x, y, z], tys⟩, ty, pos, after, g⟩ F := Ob.call hw he fun a w cx => by rw [List.map_toArray]; exact h w _ _ _ cx.le (hx a w cx) (hy a w cx) (hz a w cx)
theorem Ob.call4 {f : FuncId} {tys : Array TypeId} {x y z q : Operand} {G H K L F : VT} (hw : Wanted ops Fs w0 a0 i ⟨d, .call ⟨.value (.func f), #[x, y, z, q], tys⟩, ty, pos, after, g⟩) (he : Enters P f)
    (hx : Has ops Fs w0 a0 i ⟨d, .call ⟨.value (.func f), #[x, y, z, q], tys⟩, ty, pos, after, g⟩ x G) (hy : Has ops Fs w0 a0 i ⟨d, .call ⟨.value (.func f), #[x, y, z, q], tys⟩, ty, pos, after, g⟩ y H) (hz : Has ops Fs w0 a0 i ⟨d, .call ⟨.value (.func f), #[x, y, z, q], tys⟩, ty, pos, after, g⟩ z K) (hq : Has ops Fs w0 a0 i ⟨d, .call ⟨.value (.func f), #[x, y, z, q], tys⟩, ty, pos, after, g⟩ q L)
    (h : ∀ w u v s r, Below w0.heap.size w0 w → G w u → H w v → K w s → L w r → Calls P f #[u, v, s, r] w (Ret w F)) : Ob P ops Fs w0 a0 i ⟨d, .call ⟨.value (.func f), #[x, y, z, q], tys⟩, ty, pos, after, g⟩ F := Ob.call hw he fun a w cx => by rw [List.map_toArray]; exact h w _ _ _ _ cx.le (hx a w cx) (hy a w cx) (hz a w cx) (hq a w cx)
theorem Ob.call1V {f : FuncId} {tys : Array TypeId} {x : Operand} {p1 : Value} {F : VT} (hw : Wanted ops Fs w0 a0 i ⟨d, .call ⟨.value (.func f), #[x], tys⟩, ty, pos, after, g⟩) (he : Enters P f) (hx : Has ops Fs w0 a0 i ⟨d, .call ⟨.value (.func f), #[x], tys⟩, ty, pos, after, g⟩ x (Is p1))
    (h : ∀ w, Below w0.heap.size w0 w → Calls P f #[p1] w (Ret w F)) : Ob P ops Fs w0 a0 i ⟨d, .call ⟨.value (.func f), #[x], tys⟩, ty, pos, after, g⟩ F := Ob.call1 hw he hx fun w v0 hb e0 => by unfold Is at *; subst e0; exact h w hb
theorem Ob.call2V {f : FuncId} {tys : Array TypeId} {x y : Operand} {p1 p2 : Value} {F : VT} (hw : Wanted ops Fs w0 a0 i ⟨d, .call ⟨.value (.func f), #[x, y], tys⟩, ty, pos, after, g⟩) (he : Enters P f) (hx : Has ops Fs w0 a0 i ⟨d, .call ⟨.value (.func f), #[x, y], tys⟩, ty, pos, after, g⟩ x (Is p1)) (hy : Has ops Fs w0 a0 i ⟨d, .call ⟨.value (.func f), #[x, y], tys⟩, ty, pos, after, g⟩ y (Is p2))
    (h : ∀ w, Below w0.heap.size w0 w → Calls P f #[p1, p2] w (Ret w F)) : Ob P ops Fs w0 a0 i ⟨d, .call ⟨.value (.func f), #[x, y], tys⟩, ty, pos, after, g⟩ F := Ob.call2 hw he hx hy fun w v0 v1 hb e0 e1 => by unfold Is at *; subst e0; subst e1; exact h w hb
theorem Ob.call3V {f : FuncId} {tys : Array TypeId} {x y z : Operand} {p1 p2 p3 : Value} {F : VT} (hw : Wanted ops Fs w0 a0 i ⟨d, .call ⟨.value (.func f), #[x, y, z], tys⟩, ty, pos, after, g⟩) (he : Enters P f) (hx : Has ops Fs w0 a0 i ⟨d, .call ⟨.value (.func f), #[x, y, z], tys⟩, ty, pos, after, g⟩ x (Is p1)) (hy : Has ops Fs w0 a0 i ⟨d, .call ⟨.value (.func f), #[x, y, z], tys⟩, ty, pos, after, g⟩ y (Is p2)) (hz : Has ops Fs w0 a0 i ⟨d, .call ⟨.value (.func f), #[x, y, z], tys⟩, ty, pos, after, g⟩ z (Is p3))
    (h : ∀ w, Below w0.heap.size w0 w → Calls P f #[p1, p2, p3] w (Ret w F)) : Ob P ops Fs w0 a0 i ⟨d, .call ⟨.value (.func f), #[x, y, z], tys⟩, ty, pos, after, g⟩ F := Ob.call3 hw he hx hy hz fun w v0 v1 v2 hb e0 e1 e2 => by unfold Is at *; subst e0; subst e1; subst e2; exact h w hb
theorem Ob.call4V {f : FuncId} {tys : Array TypeId} {x y z q : Operand} {p1 p2 p3 p4 : Value} {F : VT} (hw : Wanted ops Fs w0 a0 i ⟨d, .call ⟨.value (.func f), #[x, y, z, q], tys⟩, ty, pos, after, g⟩) (he : Enters P f) (hx : Has ops Fs w0 a0 i ⟨d, .call ⟨.value (.func f), #[x, y, z, q], tys⟩, ty, pos, after, g⟩ x (Is p1)) (hy : Has ops Fs w0 a0 i ⟨d, .call ⟨.value (.func f), #[x, y, z, q], tys⟩, ty, pos, after, g⟩ y (Is p2)) (hz : Has ops Fs w0 a0 i ⟨d, .call ⟨.value (.func f), #[x, y, z, q], tys⟩, ty, pos, after, g⟩ z (Is p3)) (hq : Has ops Fs w0 a0 i ⟨d, .call ⟨.value (.func f), #[x, y, z, q], tys⟩, ty, pos, after, g⟩ q (Is p4))
    (h : ∀ w, Below w0.heap.size w0 w → Calls P f #[p1, p2, p3, p4] w (Ret w F)) : Ob P ops Fs w0 a0 i ⟨d, .call ⟨.value (.func f), #[x, y, z, q], tys⟩, ty, pos, after, g⟩ F := Ob.call4 hw he hx hy hz hq fun w v0 v1 v2 v3 hb e0 e1 e2 e3 => by unfold Is at *; subst e0; subst e1; subst e2; subst e3; exact h w hb
end

theorem mixed : Tryz.prog.follows .mixedOrders = true := by kernel_rfl
section
variable {w0 w : World} {b o : Nat}
theorem load_dot {x y : Int} (hb : Below w0.heap.size w0 w) (h1 : w0.cell? ⟨b, o, none⟩ = some (.int .i64 x)) (h2 : w0.cell? ⟨b, o + 1, none⟩ = some (.int .i64 y)) : (Instr.loadAt 79 (.pointer (some ⟨b, o, none⟩))).run Tryz.prog w = .ok (.agg #[.int .i64 x, .int .i64 y]) w := by
  have c1 := cellKeep hb h1
  have c2 := cellKeep hb h2
  simp [go_sem, c1, c2]
theorem load_int {x : Int} (hb : Below w0.heap.size w0 w) (h1 : w0.cell? ⟨b, o, none⟩ = some (.int .i64 x)) : (Instr.loadAt 3 (.pointer (some ⟨b, o, none⟩))).run Tryz.prog w = .ok (.int .i64 x) w := by
  have c1 := cellKeep hb h1
  simp [go_sem, c1]
theorem field_dot0 : (Instr.fieldAt 79 (.pointer (some ⟨b, o, none⟩)) 0).run Tryz.prog w = .ok (.pointer (some ⟨b, o, none⟩)) w := by simp [go_sem]
theorem field_dot1 : (Instr.fieldAt 79 (.pointer (some ⟨b, o, none⟩)) 1).run Tryz.prog w = .ok (.pointer (some ⟨b, o + 1, none⟩)) w := by simp [go_sem]

theorem index_vec {n c k : Nat} (hk : k < n) : (Instr.indexAt 70 (.slice (some ⟨b, o, none⟩) n c) (.int .i64 (k : Int))).run Tryz.prog w = .ok (.pointer (some ⟨b, o + k * 2, none⟩)) w := by
  have h1 : (0 : Int) ≤ (k : Int) := by omega
  have h2 : (k : Int) < (n : Int) := by omega
  simp [go_sem, h1, h2]
theorem index_dots {n c k : Nat} (hk : k < n) : (Instr.indexAt 69 (.slice (some ⟨b, o, none⟩) n c) (.int .i64 (k : Int))).run Tryz.prog w = .ok (.pointer (some ⟨b, o + k * 2, none⟩)) w := by
  have h1 : (0 : Int) ≤ (k : Int) := by omega
  have h2 : (k : Int) < (n : Int) := by omega
  simp [go_sem, h1, h2]
theorem sub_one {x y : Operand} {k : Nat} (hk : k + 1 ≤ 9223372036854775807) : (eqGuard .sub 3 x y (.int .i64 ((k + 1 : Nat) : Int)) (.int .i64 1)).run Tryz.prog w = .ok () w ∧ (Go.binOp .sub 3 (.int .i64 ((k + 1 : Nat) : Int)) (.int .i64 1)).run Tryz.prog w = .ok (.int .i64 (k : Int)) w := by
  have e : IntKind.i64.wrap (k : Int) = k := IntWalk.i64_in _ (by omega)
  constructor
  · simp [go_sem]
  · simp [go_sem, e]
theorem field_con0 : (Instr.fieldAt 72 (.pointer (some ⟨b, o, none⟩)) 0).run Tryz.prog w = .ok (.pointer (some ⟨b, o, none⟩)) w := by simp [go_sem]
theorem field_con1 : (Instr.fieldAt 72 (.pointer (some ⟨b, o, none⟩)) 1).run Tryz.prog w = .ok (.pointer (some ⟨b, o + 1, none⟩)) w := by simp [go_sem]
theorem load_vec {A : Option Addr} {n c : Nat} (hb : Below w0.heap.size w0 w) (h1 : w0.cell? ⟨b, o, none⟩ = some (.slice A n c)) : (Instr.loadAt 70 (.pointer (some ⟨b, o, none⟩))).run Tryz.prog w = .ok (.slice A n c) w := by
  have c1 := cellKeep hb h1
  simp [go_sem, c1]
theorem load_dots {A : Option Addr} {n c : Nat} (hb : Below w0.heap.size w0 w) (h1 : w0.cell? ⟨b, o, none⟩ = some (.slice A n c)) : (Instr.loadAt 69 (.pointer (some ⟨b, o, none⟩))).run Tryz.prog w = .ok (.slice A n c) w := by
  have c1 := cellKeep hb h1
  simp [go_sem, c1]
theorem load_con {A B : Option Addr} {n c m d : Nat} (hb : Below w0.heap.size w0 w) (h1 : w0.cell? ⟨b, o, none⟩ = some (.slice A n c)) (h2 : w0.cell? ⟨b, o + 1, none⟩ = some (.slice B m d)) : (Instr.loadAt 72 (.pointer (some ⟨b, o, none⟩))).run Tryz.prog w = .ok (.agg #[.slice A n c, .slice B m d]) w := by
  have c1 := cellKeep hb h1
  have c2 := cellKeep hb h2
  simp [go_sem, c1, c2]
theorem int_add {x y : Operand} {a c : Int} (r : Int) (h : IntKind.i64.wrap (a + c) = r) : (eqGuard .add 3 x y (.int .i64 a) (.int .i64 c)).run Tryz.prog w = .ok () w ∧ (Go.binOp .add 3 (.int .i64 a) (.int .i64 c)).run Tryz.prog w = .ok (.int .i64 r) w := by subst h; simp [go_sem]
theorem len_dots {A : Option Addr} {n c : Nat} {ty : TypeId} : (Builtin.len_ #[69] ty #[.slice A n c]).run Tryz.prog w = .ok (.int .i64 (n : Int)) w := by simp [go_sem]
theorem len_vec {A : Option Addr} {n c : Nat} {ty : TypeId} : (Builtin.len_ #[70] ty #[.slice A n c]).run Tryz.prog w = .ok (.int .i64 (n : Int)) w := by simp [go_sem]
/-- Tests on integers and bools. -/
theorem int_gtr {x y : Operand} {k : IntKind} {t : TypeId} {a c : Int} (r : Bool) (h : (decide (c < a)) = r) : (eqGuard .gtr t x y (.int k a) (.int k c)).run Tryz.prog w = .ok () w ∧ (Go.binOp .gtr t (.int k a) (.int k c)).run Tryz.prog w = .ok (.bool r) w := by subst h; simp [go_sem]
theorem int_geq {x y : Operand} {k : IntKind} {t : TypeId} {a c : Int} (r : Bool) (h : (decide (c ≤ a)) = r) : (eqGuard .geq t x y (.int k a) (.int k c)).run Tryz.prog w = .ok () w ∧ (Go.binOp .geq t (.int k a) (.int k c)).run Tryz.prog w = .ok (.bool r) w := by subst h; simp [go_sem]
theorem int_lss {x y : Operand} {k : IntKind} {t : TypeId} {a c : Int} (r : Bool) (h : (decide (a < c)) = r) : (eqGuard .lss t x y (.int k a) (.int k c)).run Tryz.prog w = .ok () w ∧ (Go.binOp .lss t (.int k a) (.int k c)).run Tryz.prog w = .ok (.bool r) w := by subst h; simp [go_sem]
theorem int_leq {x y : Operand} {k : IntKind} {t : TypeId} {a c : Int} (r : Bool) (h : (decide (a ≤ c)) = r) : (eqGuard .leq t x y (.int k a) (.int k c)).run Tryz.prog w = .ok () w ∧ (Go.binOp .leq t (.int k a) (.int k c)).run Tryz.prog w = .ok (.bool r) w := by subst h; simp [go_sem]
theorem int_eql {x y : Operand} {k : IntKind} {t : TypeId} {a c : Int} (r : Bool) (h : (a == c) = r) : (eqGuard .eql t x y (.int k a) (.int k c)).run Tryz.prog w = .ok () w ∧ (Go.binOp .eql t (.int k a) (.int k c)).run Tryz.prog w = .ok (.bool r) w := by subst h; simp [go_sem]
theorem int_neq {x y : Operand} {k : IntKind} {t : TypeId} {a c : Int} (r : Bool) (h : (a != c) = r) : (eqGuard .neq t x y (.int k a) (.int k c)).run Tryz.prog w = .ok () w ∧ (Go.binOp .neq t (.int k a) (.int k c)).run Tryz.prog w = .ok (.bool r) w := by subst h; simp [go_sem]
theorem bool_neq {x y : Operand} {a c : Bool} (r : Bool) (h : (a != c) = r) : (eqGuard .neq 4 x y (.bool a) (.bool c)).run Tryz.prog w = .ok () w ∧ (Go.binOp .neq 4 (.bool a) (.bool c)).run Tryz.prog w = .ok (.bool r) w := by subst h; cases a <;> cases c <;> simp [go_sem]
theorem bool_eql {x y : Operand} {a c : Bool} (r : Bool) (h : (a == c) = r) : (eqGuard .eql 4 x y (.bool a) (.bool c)).run Tryz.prog w = .ok () w ∧ (Go.binOp .eql 4 (.bool a) (.bool c)).run Tryz.prog w = .ok (.bool r) w := by subst h; simp [go_sem]
end
end Go.Proofs.YthoacbdoogpaiaaGreatDoor

/-
  Rows of dots of the call's own: an append, a clone.
-/
namespace Go.Proofs.YthoacbdoogpaiaaGreatDoor
open Go.RowKit

def dcells (l : List Dot) : List Value := l.flatMap fun d => [.int .i64 d.1, .int .i64 d.2]
theorem dcells_cons (d : Dot) (l : List Dot) : dcells (d :: l) = .int .i64 d.1 :: .int .i64 d.2 :: dcells l := rfl
theorem dcells_append (a b : List Dot) : dcells (a ++ b) = dcells a ++ dcells b := by unfold dcells; rw [List.flatMap_append]
theorem dcells_length : ∀ l : List Dot, (dcells l).length = l.length * 2
  | [] => rfl
  | d :: l => by rw [dcells_cons]; simp only [List.length_cons, dcells_length l]; omega
theorem dcells_get : ∀ (l : List Dot) (i : Nat) (d : Dot), l[i]? = some d → (dcells l)[i * 2]? = some (.int .i64 d.1) ∧ (dcells l)[i * 2 + 1]? = some (.int .i64 d.2)
  | [], i, d, h => by simp at h
  | a :: l, 0, d, h => by simp at h; subst h; exact ⟨rfl, rfl⟩
  | a :: l, i + 1, d, h => by
    have := dcells_get l i d (by simpa using h)
    rw [dcells_cons, show (i + 1) * 2 = i * 2 + 1 + 1 by omega]
    simpa using this
theorem dcells_at (l : List Dot) (j : Nat) (u : Value) (h : (dcells l)[j]? = some u) : ∃ i d, l[i]? = some d ∧ ((j = i * 2 ∧ u = .int .i64 d.1) ∨ (j = i * 2 + 1 ∧ u = .int .i64 d.2)) := by
  have hl : j < l.length * 2 := by rw [← dcells_length]; exact (List.getElem?_eq_some_iff.1 h).1
  have hi : j / 2 < l.length := by omega
  obtain ⟨h1, h2⟩ := dcells_get l (j / 2) l[j / 2] (List.getElem?_eq_getElem hi)
  refine ⟨j / 2, l[j / 2], List.getElem?_eq_getElem hi, ?_⟩
  rcases Nat.mod_two_eq_zero_or_one j with hm | hm
  · left
    have e : j = j / 2 * 2 := by omega
    rw [← e, h] at h1
    exact ⟨e, by simpa using h1⟩
  · right
    have e : j = j / 2 * 2 + 1 := by omega
    rw [← e, h] at h2
    exact ⟨e, by simpa using h2⟩
theorem dcells_one (l : List Dot) : ∀ u ∈ dcells l, u.oneCell' = true := by
  intro u hu
  obtain ⟨j, hj⟩ := List.getElem?_of_mem hu
  obtain ⟨i, d, _, h | h⟩ := dcells_at l j u hj <;> rw [h.2] <;> rfl
theorem add_lit (b o j : Nat) : (⟨b, o, none⟩ : Addr).add j = ⟨b, o + j, none⟩ := by unfold Addr.add; split <;> simp_all
theorem Dots.cells {w : World} {A : Option Addr} {n c : Nat} {l : List Dot} (h : Dots w A n c l) {a : Addr} (hA : A = some a) (j : Nat) (u : Value) (hu : (dcells l)[j]? = some u) : w.cell? (a.add j) = some u := by
  obtain ⟨i, d, hi, hh⟩ := dcells_at l j u hu
  obtain ⟨b, o, e, _, h1, h2⟩ := h.cell i d hi
  rw [hA] at e; cases e
  rw [add_lit]
  rcases hh with ⟨rfl, rfl⟩ | ⟨rfl, rfl⟩
  · exact h1
  · exact h2

/-- The address of a cut 's[k:]' (at the capacity it stays). -/
def cutA (A : Option Addr) (c k : Nat) : Option Addr := if c = k then A else A.map (·.add (k * 2))
theorem slice_to_dots {w : World} {A : Option Addr} {n c k : Nat} (h : k ≤ c) : (Instr.sliceAt 69 (.slice A n c) none (some (.int .i64 (k : Int))) none).run Tryz.prog w = .ok (.slice A k c) w := by
  have h1 : (0 : Int) ≤ (k : Int) := by omega
  have h2 : (k : Int) ≤ (c : Int) := by omega
  simp [go_sem, h1, h2]
theorem slice_from_dots {w : World} {A : Option Addr} {n c k : Nat} (h : k ≤ n) (hc : n ≤ c) : (Instr.sliceAt 69 (.slice A n c) (some (.int .i64 (k : Int))) none none).run Tryz.prog w = .ok (.slice (cutA A c k) (n - k) (c - k)) w := by
  have h1 : (0 : Int) ≤ (k : Int) := by omega
  have h2 : (k : Int) ≤ (n : Int) := by omega
  have h3 : (n : Int) ≤ (c : Int) := by omega
  unfold cutA
  simp [go_sem, h1, h2]
theorem slice_to_vec {w : World} {A : Option Addr} {n c k : Nat} (h : k ≤ c) : (Instr.sliceAt 70 (.slice A n c) none (some (.int .i64 (k : Int))) none).run Tryz.prog w = .ok (.slice A k c) w := by
  have h1 : (0 : Int) ≤ (k : Int) := by omega
  have h2 : (k : Int) ≤ (c : Int) := by omega
  simp [go_sem, h1, h2]
theorem slice_from_vec {w : World} {A : Option Addr} {n c k : Nat} (h : k ≤ n) (hc : n ≤ c) : (Instr.sliceAt 70 (.slice A n c) (some (.int .i64 (k : Int))) none none).run Tryz.prog w = .ok (.slice (cutA A c k) (n - k) (c - k)) w := by
  have h1 : (0 : Int) ≤ (k : Int) := by omega
  have h2 : (k : Int) ≤ (n : Int) := by omega
  have h3 : (n : Int) ≤ (c : Int) := by omega
  unfold cutA
  simp [go_sem, h1, h2]
theorem Dots.take {w : World} {A : Option Addr} {n c k : Nat} {l : List Dot} (h : Dots w A n c l) (hk : k ≤ n) : Dots w A k c (l.take k) :=
  ⟨by rw [List.length_take, ← h.len]; omega, Nat.le_trans hk h.cap, h.max, h.nil, fun i d hi => h.cell i d (by rw [List.getElem?_take] at hi; split at hi; exact hi; cases hi)⟩
theorem Dots.drop {w : World} {A : Option Addr} {n c k : Nat} {l : List Dot} (h : Dots w A n c l) (hk : k ≤ n) : Dots w (cutA A c k) (n - k) (c - k) (l.drop k) := by
  refine ⟨by rw [List.length_drop, ← h.len], by have := h.cap; omega, by have := h.max; omega, fun e => ?_, fun i d hi => ?_⟩
  · by_cases hc : c = k
    · omega
    · unfold cutA at e; rw [if_neg hc] at e
      have : A = none := by cases A with | none => rfl | some a => cases e
      have := h.nil this; omega
  · rw [List.getElem?_drop] at hi
    obtain ⟨b, o, rfl, hb, h1, h2⟩ := h.cell _ d hi
    have hl : k + i < l.length := (List.getElem?_eq_some_iff.1 hi).1
    have hc : ¬ c = k := by have := h.cap; have := h.len; omega
    unfold cutA; rw [if_neg hc]
    refine ⟨b, o + k * 2, by simp [add_lit], hb, ?_, ?_⟩
    · rw [show o + k * 2 + i * 2 = o + (k + i) * 2 by omega]; exact h1
    · rw [show o + k * 2 + i * 2 + 1 = o + (k + i) * 2 + 1 by omega]; exact h2

/-- A row of the call's own, from block B on, that reads as a list of dots. -/
def Row (w : World) (B : Nat) (v : Value) (l : List Dot) : Prop := w.ownsRow B 79 2 v l.length (dcells l)
section
variable {w w' : World} {B : Nat} {v : Value} {l : List Dot}
theorem Row.mono (h : Row w B v l) (hb : Below w.heap.size w w') : Row w' B v l := by
  refine ⟨h.1, ?_⟩
  rcases h.2 with h2 | ⟨g, cap, cur, hv, hg, hh, r⟩
  · exact .inl h2
  · exact .inr ⟨g, cap, cur, hv, hg, (hb.block g (Array.getElem?_eq_some_iff.1 hh).1).trans hh, r⟩
theorem Row.low (h : Row w B v l) {B' : Nat} (hB : B' ≤ B) : Row w B' v l := by
  refine ⟨h.1, ?_⟩
  rcases h.2 with h2 | ⟨g, cap, cur, hv, hg, r⟩
  · exact .inl h2
  · exact .inr ⟨g, cap, cur, hv, by omega, r⟩
theorem Row.dots (h : Row w B v l) : ∃ A c, v = .slice A l.length c ∧ Dots w A l.length c l := by
  rcases h.2 with ⟨rfl, h0⟩ | ⟨g, cap, cur, rfl, hg, hh, hn, hm, hs, ht⟩
  · have : l = [] := List.eq_nil_of_length_eq_zero h0
    subst this
    exact ⟨none, 0, rfl, Dots.nil_⟩
  · refine ⟨some ⟨g, 0, none⟩, cap, rfl, rfl, hn, hm, (fun e => nomatch e), fun i d hi => ?_⟩
    obtain ⟨h1, h2⟩ := dcells_get l i d hi
    have hil : i < l.length := (List.getElem?_eq_some_iff.1 hi).1
    refine ⟨g, 0, rfl, (Array.getElem?_eq_some_iff.1 hh).1, ?_, ?_⟩
    · rw [cell_of_row w g _ cur _ (0, 0) hh]
      rw [← ht, List.getElem?_take] at h1
      split at h1
      · simpa using h1
      · cases h1
    · rw [cell_of_row w g _ cur _ (0, 0) hh]
      rw [← ht, List.getElem?_take] at h2
      split at h2
      · simpa using h2
      · cases h2
theorem Row.nil_ (w : World) (B : Nat) : Row w B (.slice none 0 0) [] := World.ownsRow_nil w B _ 2
end
def IsRow (B : Nat) (l : List Dot) (w : World) (v : Value) : Prop := Row w B v l
def IsDots (l : List Dot) (w : World) (v : Value) : Prop := ∃ A n c, v = .slice A n c ∧ Dots w A n c l
instance (B : Nat) (l : List Dot) : Grows (IsRow B l) := ⟨fun hb h => Row.mono h hb⟩
instance (l : List Dot) : Grows (IsDots l) := ⟨fun hb ⟨A, n, c, e, h⟩ => ⟨A, n, c, e, h.mono hb⟩⟩
theorem IsRow.dots {B : Nat} {l : List Dot} {w : World} {v : Value} (h : IsRow B l w v) : IsDots l w v := let ⟨A, c, e, h'⟩ := Row.dots h; ⟨A, _, c, e, h'⟩

theorem info_dot : ∃ i : TypeInfo, Tryz.prog.info? 79 = some i ∧ i.zero = some (.agg #[.int .i64 0, .int .i64 0]) ∧ i.size = 2 ∧ i.bytes = 16 := by
  obtain ⟨i, h1, h2, h3, h4⟩ := info_parts (P := Tryz.prog) (show (Tryz.prog.info? 79).map (fun i => (i.zero, i.size, i.bytes)) = some (some (.agg #[.int .i64 0, .int .i64 0]), 2, 16) by kernel_rfl)
  exact ⟨i, h1, h2, h3, h4⟩

/-- An append of dots onto a row of the call's own. -/
theorem run_app {t ty : TypeId} (ht : Tryz.prog.underlying t = some (.slice 79)) {w : World} {B : Nat} {v : Value} {l k : List Dot} {A : Option Addr} {n c : Nat} (h : Row w B v l) (hk : Dots w A n c k) (hs : l.length + k.length ≤ 1000000000) (hB : B ≤ w.heap.size) :
    ∃ v' w', (Builtin.append_ #[t, t] ty #[v, .slice A n c]).run Tryz.prog w = .ok v' w' ∧ Row w' B v' (l ++ k) ∧ w.grownBy w' v.ownBlock := by
  obtain ⟨i, hi, hz, hsz, hby⟩ := info_dot
  cases A with
  | none =>
    have hc := hk.nil rfl
    have hn : n = 0 := by have := hk.cap; omega
    subst hc; subst hn
    have hk0 : k = [] := List.eq_nil_of_length_eq_zero hk.len.symm
    subst hk0
    refine ⟨v, w, run_append_owned_none (P := Tryz.prog) (w := w) B t ty 79 i 2 ht hi v l.length (dcells l) h, by rw [List.append_nil]; exact h, ⟨rfl, rfl, rfl, Nat.le_refl _, fun _ _ _ => rfl⟩⟩
  | some a =>
    obtain ⟨v', w', h1, h2, h3, _⟩ := run_append_own (P := Tryz.prog) w B t ty 79 i _ 2 16 ht hi hz hsz hby rfl (by omega) v l.length (dcells l) h a n c (dcells k) (by rw [dcells_length, hk.len]) (fun j u hu => hk.cells rfl j u hu) (dcells_one k)
      (by rw [hk.len]; unfold maxLen; omega) (by rw [hk.len]; omega) hB
    refine ⟨v', w', h1, ?_, h3⟩
    unfold Row
    rw [List.length_append, dcells_append]
    rw [hk.len] at h2
    exact h2
/-- Where the row lies that an append gives: where it lay, or in a new block. -/
theorem run_app_block {t ty : TypeId} (ht : Tryz.prog.underlying t = some (.slice 79)) {w w' : World} {B : Nat} {v v' : Value} {l k : List Dot} {A : Option Addr} {n c : Nat} (h : Row w B v l) (hk : Dots w A n c k) (hs : l.length + k.length ≤ 1000000000)
    (hr : (Builtin.append_ #[t, t] ty #[v, .slice A n c]).run Tryz.prog w = .ok v' w') : ∀ g, v'.ownBlock = some g → v.ownBlock = some g ∨ w.heap.size ≤ g := by
  obtain ⟨i, hi, hz, hsz, hby⟩ := info_dot
  cases A with
  | none =>
    have hc := hk.nil rfl
    have hn : n = 0 := by have := hk.cap; omega
    subst hc; subst hn
    rw [run_append_owned_none (P := Tryz.prog) (w := w) B t ty 79 i 2 ht hi v l.length (dcells l) h] at hr
    cases hr
    exact fun g hg => .inl hg
  | some a =>
    have hnews : ∀ j u, (dcells k)[j]? = some u → w.cell? (a.add j) = some u := fun j u hu => hk.cells rfl j u hu
    have hlen : (dcells k).length = n * i.size := by rw [dcells_length, hk.len, hsz]
    have hkl := hk.len
    rcases h.2 with ⟨rfl, h0⟩ | ⟨g, cap, cur, rfl, hbg, hg, hnc, hcm, hcs, htake⟩
    · by_cases hm : n = 0
      · subst hm
        have hk0 : k = [] := List.eq_nil_of_length_eq_zero hkl.symm
        subst hk0
        have e : (Builtin.append_ #[t, t] ty #[.slice none 0 0, .slice (some a) 0 c]).run Tryz.prog w = .ok (.slice none 0 0) w := by
          simp [Builtin.append_, run_underlying ht, sizeOf, typeInfo, hi, Builtin.lenOf, Builtin.firstCells, loadCells, loadCellsFrom]
        rw [e] at hr; cases hr
        exact fun g hg => .inl hg
      · rw [run_append_nil (P := Tryz.prog) w t ty 79 i _ ht hi hz a n c (dcells k) hlen hnews (by omega) (by omega) (by rw [hby]; omega)] at hr
        cases hr
        intro g hg; simp [Value.ownBlock] at hg; exact .inr (by omega)
    · by_cases hroom : l.length + n ≤ cap
      · rw [run_append_room (P := Tryz.prog) w t ty 79 i ht hi g l.length cap cur hg a n c (dcells k) hlen hnews (dcells_one k) hroom (by rw [hlen, hsz, hcs, ← Nat.add_mul]; exact Nat.mul_le_mul_right _ hroom)] at hr
        cases hr
        exact fun g hg => .inl hg
      · have holds : ∀ j u, (dcells l)[j]? = some u → w.cell? ((⟨g, 0, none⟩ : Addr).add j) = some u := World.ownsRow.cells (v := .slice (some ⟨g, 0, none⟩) l.length cap) h rfl
        rw [run_append_grow (P := Tryz.prog) w t ty 79 i _ ht hi hz ⟨g, 0, none⟩ l.length cap (dcells l) (by rw [dcells_length, hsz]) holds a n c (dcells k) hlen hnews (by omega) (by omega) (by rw [hby]; exact growslice_fits (by omega) (by omega))] at hr
        cases hr
        intro g hg; simp [Value.ownBlock] at hg; exact .inr (by omega)
theorem Row.empty {w : World} {B g : Nat} (hB : B ≤ g) (h : w.heap[g]? = some (.cells #[] 79 (0, 0))) : Row w B (.slice (some ⟨g, 0, none⟩) 0 0) [] :=
  ⟨rfl, .inr ⟨g, 0, #[], rfl, hB, h, Nat.le_refl _, Nat.zero_le _, rfl, rfl⟩⟩
theorem Row.grown {w w1 : World} {B : Nat} {v : Value} {l : List Dot} {row : Option Nat} (h : Row w B v l) (hg : w.grownBy w1 row) (hne : v.ownBlock = none ∨ v.ownBlock ≠ row) : Row w1 B v l := World.ownsRow.kept h hg hne
/-- Dots in a row that an append elsewhere leaves. -/
theorem Dots.grown {w w1 : World} {A : Option Addr} {n c : Nat} {l : List Dot} {row : Option Nat} (h : Dots w A n c l) (hg : w.grownBy w1 row) (hne : ∀ a, A = some a → some a.block ≠ row) : Dots w1 A n c l :=
  ⟨h.len, h.cap, h.max, h.nil, fun i d hi => by
    obtain ⟨b, o, rfl, hlt, h1, h2⟩ := h.cell i d hi
    exact ⟨b, o, rfl, Nat.lt_of_lt_of_le hlt hg.size, hg.cell h1 (hne ⟨b, o, none⟩ rfl), hg.cell h2 (hne ⟨b, o, none⟩ rfl)⟩⟩
/-- A store elsewhere. -/
theorem Dots.set_ {w : World} {A : Option Addr} {n c : Nat} {l : List Dot} (h : Dots w A n c l) {p : Addr} (hne : ∀ a, A = some a → a.block ≠ p.block) (u : Value) : Dots (w.setCell p u) A n c l :=
  ⟨h.len, h.cap, h.max, h.nil, fun i d hi => by
    obtain ⟨b, o, rfl, hlt, h1, h2⟩ := h.cell i d hi
    have hb : b ≠ p.block := hne ⟨b, o, none⟩ rfl
    refine ⟨b, o, rfl, by simpa [World.setCell] using hlt, ?_, ?_⟩
    · rw [World.cell?_setCell_other w p _ u (fun e => hb (by rw [e]))]; exact h1
    · rw [World.cell?_setCell_other w p _ u (fun e => hb (by rw [e]))]; exact h2⟩
theorem Row.set_ {w : World} {B : Nat} {v : Value} {l : List Dot} (h : Row w B v l) {p : Addr} (hne : ∀ k, v.ownBlock = some k → k ≠ p.block) (u : Value) : Row (w.setCell p u) B v l := by
  refine ⟨h.1, ?_⟩
  rcases h.2 with h2 | ⟨g, cap, cur, hv, hg, hh, r⟩
  · exact .inl h2
  · exact .inr ⟨g, cap, cur, hv, hg, by rw [Below.heap_setCell w p u g (hne g (by rw [hv]; rfl))]; exact hh, r⟩
theorem own_ne {A : Option Addr} {n c N : Nat} (h : ∀ a, A = some a → a.block ≠ N) : ∀ k, (Value.slice A n c).ownBlock = some k → k ≠ N := by
  intro k hk
  cases A with
  | none => simp [Value.ownBlock] at hk
  | some a => simp [Value.ownBlock] at hk; subst hk; exact h a rfl
theorem Row.from_ {w : World} {B : Nat} {A : Option Addr} {n c : Nat} {l : List Dot} (h : Row w B (.slice A n c) l) : ∀ a, A = some a → B ≤ a.block := fun a e => (World.ownsRow.lt h a.block (by rw [e]; rfl)).1
theorem cutA_block {A : Option Addr} {c k : Nat} {p : Nat → Prop} (h : ∀ a, A = some a → p a.block) : ∀ a, cutA A c k = some a → p a.block := by
  intro a e
  unfold cutA at e
  split at e
  · exact h a e
  · cases A with
    | none => cases e
    | some a' => simp at e; subst e; rw [show (a'.add (k * 2)).block = a'.block by unfold Addr.add; split <;> rfl]; exact h a' rfl
theorem Row.own (w : World) {B : Nat} {v : Value} {l : List Dot} (h : Row w B v l) : ∀ k, v.ownBlock = some k → B ≤ k := fun k hk => (World.ownsRow.lt h k hk).1
/-- The same as an operation. -/
theorem wpList_app {ops : Array Oper} {rest : List Oper} {o : Oper} {a : Act} {Q : Exit → Act → World → Prop} {s x : Operand} {t : TypeId} {w : World} {B : Nat} {v : Value} {l k : List Dot} {A : Option Addr} {n c : Nat}
    (hgd : o.guard = none) (ho : o.op = .call { callee := .builtin .append, args := #[s, x], argTypes := #[t, t] }) (ht : Tryz.prog.underlying t = some (.slice 79)) (hsv : a.eval s = v) (hxv : a.eval x = .slice A n c)
    (h : Row w B v l) (hk : Dots w A n c k) (hs : l.length + k.length ≤ 1000000000) (hB : B ≤ w.heap.size)
    (K : ∀ v' w', Row w' B v' (l ++ k) → w.grownBy w' v.ownBlock → wpList Tryz.prog ops Q rest (a.put o.dst v') w') : wpList Tryz.prog ops Q (o :: rest) a w := by
  refine wpList_plain hgd fun K' hK => ?_
  obtain ⟨v', w', hr, h2, h3⟩ := run_app (ty := o.type) ht h hk hs hB
  unfold Oper.wp
  simp [execOp, ho, resolve, invoke, builtin, hsv, hxv, hr, Result.andThen]
  exact hK _ _ (K v' w' h2 h3)

theorem wpList_appO {ops : Array Oper} {rest : List Oper} {o : Oper} {a : Act} {Q : Exit → Act → World → Prop} {s x : Operand} {t : TypeId} {w : World} {B : Nat} {v : Value} {l k : List Dot} {A : Option Addr} {n c : Nat}
    (hgd : o.guard = none) (ho : o.op = .call { callee := .builtin .append, args := #[s, x], argTypes := #[t, t] }) (ht : Tryz.prog.underlying t = some (.slice 79)) (hsv : a.eval s = v) (hxv : a.eval x = .slice A n c)
    (h : Row w B v l) (hk : Dots w A n c k) (hs : l.length + k.length ≤ 1000000000) (hB : B ≤ w.heap.size)
    (K : ∀ v' w', Row w' B v' (l ++ k) → w.grownBy w' v.ownBlock → (∀ g, v'.ownBlock = some g → v.ownBlock = some g ∨ w.heap.size ≤ g) → wpList Tryz.prog ops Q rest (a.put o.dst v') w') : wpList Tryz.prog ops Q (o :: rest) a w := by
  refine wpList_plain hgd fun K' hK => ?_
  obtain ⟨v', w', hr, h2, h3⟩ := run_app (ty := o.type) ht h hk hs hB
  have h4 := run_app_block ht h hk hs hr
  unfold Oper.wp
  simp [execOp, ho, resolve, invoke, builtin, hsv, hxv, hr, Result.andThen]
  exact hK _ _ (K v' w' h2 h3 h4)

theorem wp_app {o : Oper} {a : Act} {Q : Exit → Act → World → Prop} {s x : Operand} {t : TypeId} {w : World} {B : Nat} {v : Value} {l k : List Dot} {A : Option Addr} {n c : Nat} {K : Act → World → Prop}
    (ho : o.op = .call { callee := .builtin .append, args := #[s, x], argTypes := #[t, t] }) (ht : Tryz.prog.underlying t = some (.slice 79)) (hsv : a.eval s = v) (hxv : a.eval x = .slice A n c)
    (h : Row w B v l) (hk : Dots w A n c k) (hs : l.length + k.length ≤ 1000000000) (hB : B ≤ w.heap.size)
    (hK : ∀ v' w', Row w' B v' (l ++ k) → w.grownBy w' v.ownBlock → K (a.put o.dst v') w') : o.wp Tryz.prog a w K Q := by
  obtain ⟨v', w', hr, h2, h3⟩ := run_app (ty := o.type) ht h hk hs hB
  unfold Oper.wp
  simp [execOp, ho, resolve, invoke, builtin, hsv, hxv, hr, Result.andThen]
  exact hK v' w' h2 h3
section
variable {P : Program} {ops : List Oper} {Fs : List VT} {w0 : World} {a0 : Act} {i : Nat} {d : Option Tmp} {ty : TypeId} {pos : String} {after : Array Edge} {g : Option (Nat × Bool)}
/-- In a region: an append onto nil: a new row. -/
theorem Ob.appNil {x : Operand} {t : TypeId} {l : List Dot} (hw : Wanted ops Fs w0 a0 i ⟨d, .call ⟨.builtin .append, #[.const (.slice none 0 0), x], #[t, t]⟩, ty, pos, after, g⟩) (ht : Tryz.prog.underlying t = some (.slice 79))
    (hx : Has ops Fs w0 a0 i ⟨d, .call ⟨.builtin .append, #[.const (.slice none 0 0), x], #[t, t]⟩, ty, pos, after, g⟩ x (IsDots l)) (hs : l.length ≤ 1000000000) :
    Ob Tryz.prog ops Fs w0 a0 i ⟨d, .call ⟨.builtin .append, #[.const (.slice none 0 0), x], #[t, t]⟩, ty, pos, after, g⟩ (IsRow w0.heap.size l) :=
  Ob.any hw fun a w cx => by
    obtain ⟨A, n, c, e, hd⟩ := hx a w cx
    obtain ⟨v', w', hr, h2, h3⟩ := run_app (ty := ty) ht (Row.nil_ w w.heap.size) hd (by simpa using hs) (Nat.le_refl _)
    refine ⟨v', w', ?_, (Below.refl _ w).grown h3 (Nat.le_refl _) (fun k hk => by simp [Value.ownBlock] at hk), Row.low h2 cx.le.size⟩
    have hc : a.eval (.const (.slice none 0 0)) = .slice none 0 0 := rfl
    generalize a.eval = ρ at e hc
    simp [execOp, resolve, invoke, builtin, e, hc, hr]
theorem Ob.appNilV {x : Operand} {t : TypeId} {l : List Dot} {A : Option Addr} {n c : Nat} (hw : Wanted ops Fs w0 a0 i ⟨d, .call ⟨.builtin .append, #[.const (.slice none 0 0), x], #[t, t]⟩, ty, pos, after, g⟩) (ht : Tryz.prog.underlying t = some (.slice 79))
    (hx : Has ops Fs w0 a0 i ⟨d, .call ⟨.builtin .append, #[.const (.slice none 0 0), x], #[t, t]⟩, ty, pos, after, g⟩ x (Is (.slice A n c))) (hd : ∀ w, Below w0.heap.size w0 w → Dots w A n c l) (hs : l.length ≤ 1000000000) :
    Ob Tryz.prog ops Fs w0 a0 i ⟨d, .call ⟨.builtin .append, #[.const (.slice none 0 0), x], #[t, t]⟩, ty, pos, after, g⟩ (IsRow w0.heap.size l) :=
  Ob.any hw fun a w cx => by
    have e : a.eval x = .slice A n c := hx a w cx
    have hd := hd w cx.le
    obtain ⟨v', w', hr, h2, h3⟩ := run_app (ty := ty) ht (Row.nil_ w w.heap.size) hd (by simpa using hs) (Nat.le_refl _)
    refine ⟨v', w', ?_, (Below.refl _ w).grown h3 (Nat.le_refl _) (fun k hk => by simp [Value.ownBlock] at hk), Row.low h2 cx.le.size⟩
    have hc : a.eval (.const (.slice none 0 0)) = .slice none 0 0 := rfl
    generalize a.eval = ρ at e hc
    simp [execOp, resolve, invoke, builtin, e, hc, hr]
theorem Ob.sliceTo_dots {x y : Operand} {A : Option Addr} {n c k : Nat} (hw : Wanted ops Fs w0 a0 i ⟨d, .slice 69 x none (some y) none, ty, pos, after, g⟩) (hx : Has ops Fs w0 a0 i ⟨d, .slice 69 x none (some y) none, ty, pos, after, g⟩ x (Is (.slice A n c))) (hy : Has ops Fs w0 a0 i ⟨d, .slice 69 x none (some y) none, ty, pos, after, g⟩ y (IsI (k : Int))) (h : k ≤ c) :
    Ob Tryz.prog ops Fs w0 a0 i ⟨d, .slice 69 x none (some y) none, ty, pos, after, g⟩ (Is (.slice A k c)) :=
  Ob.stay hw fun a w cx => ⟨_, by
    have h1 : a.eval x = .slice A n c := hx a w cx
    have h2 : a.eval y = .int .i64 (k : Int) := hy a w cx
    have h3 := slice_to_dots (w := w) (A := A) (n := n) h
    generalize a.eval = ρ at h1 h2
    simp only [execOp, Option.map, h1, h2]
    simp [h3], rfl⟩
theorem Ob.sliceFrom_dots {x y : Operand} {A : Option Addr} {n c k : Nat} (hw : Wanted ops Fs w0 a0 i ⟨d, .slice 69 x (some y) none none, ty, pos, after, g⟩) (hx : Has ops Fs w0 a0 i ⟨d, .slice 69 x (some y) none none, ty, pos, after, g⟩ x (Is (.slice A n c))) (hy : Has ops Fs w0 a0 i ⟨d, .slice 69 x (some y) none none, ty, pos, after, g⟩ y (IsI (k : Int))) (h : k ≤ n) (hc : n ≤ c) :
    Ob Tryz.prog ops Fs w0 a0 i ⟨d, .slice 69 x (some y) none none, ty, pos, after, g⟩ (Is (.slice (cutA A c k) (n - k) (c - k))) :=
  Ob.stay hw fun a w cx => ⟨_, by
    have h1 : a.eval x = .slice A n c := hx a w cx
    have h2 : a.eval y = .int .i64 (k : Int) := hy a w cx
    have h3 := slice_from_dots (w := w) (A := A) h hc
    generalize a.eval = ρ at h1 h2
    simp only [execOp, Option.map, h1, h2]
    simp [h3], rfl⟩
theorem Ob.sliceTo_vec {x y : Operand} {A : Option Addr} {n c k : Nat} (hw : Wanted ops Fs w0 a0 i ⟨d, .slice 70 x none (some y) none, ty, pos, after, g⟩) (hx : Has ops Fs w0 a0 i ⟨d, .slice 70 x none (some y) none, ty, pos, after, g⟩ x (Is (.slice A n c))) (hy : Has ops Fs w0 a0 i ⟨d, .slice 70 x none (some y) none, ty, pos, after, g⟩ y (IsI (k : Int))) (h : k ≤ c) :
    Ob Tryz.prog ops Fs w0 a0 i ⟨d, .slice 70 x none (some y) none, ty, pos, after, g⟩ (Is (.slice A k c)) :=
  Ob.stay hw fun a w cx => ⟨_, by
    have h1 : a.eval x = .slice A n c := hx a w cx
    have h2 : a.eval y = .int .i64 (k : Int) := hy a w cx
    have h3 := slice_to_vec (w := w) (A := A) (n := n) h
    generalize a.eval = ρ at h1 h2
    simp only [execOp, Option.map, h1, h2]
    simp [h3], rfl⟩
theorem Ob.sliceFrom_vec {x y : Operand} {A : Option Addr} {n c k : Nat} (hw : Wanted ops Fs w0 a0 i ⟨d, .slice 70 x (some y) none none, ty, pos, after, g⟩) (hx : Has ops Fs w0 a0 i ⟨d, .slice 70 x (some y) none none, ty, pos, after, g⟩ x (Is (.slice A n c))) (hy : Has ops Fs w0 a0 i ⟨d, .slice 70 x (some y) none none, ty, pos, after, g⟩ y (IsI (k : Int))) (h : k ≤ n) (hc : n ≤ c) :
    Ob Tryz.prog ops Fs w0 a0 i ⟨d, .slice 70 x (some y) none none, ty, pos, after, g⟩ (Is (.slice (cutA A c k) (n - k) (c - k))) :=
  Ob.stay hw fun a w cx => ⟨_, by
    have h1 : a.eval x = .slice A n c := hx a w cx
    have h2 : a.eval y = .int .i64 (k : Int) := hy a w cx
    have h3 := slice_from_vec (w := w) (A := A) h hc
    generalize a.eval = ρ at h1 h2
    simp only [execOp, Option.map, h1, h2]
    simp [h3], rfl⟩
theorem Ob.mkCon {x y : Operand} {A B : Option Addr} {n ca m cb : Nat} (hw : Wanted ops Fs w0 a0 i ⟨d, .build 72 #[(0, x), (1, y)], ty, pos, after, g⟩) (hx : Has ops Fs w0 a0 i ⟨d, .build 72 #[(0, x), (1, y)], ty, pos, after, g⟩ x (Is (.slice A n ca))) (hy : Has ops Fs w0 a0 i ⟨d, .build 72 #[(0, x), (1, y)], ty, pos, after, g⟩ y (Is (.slice B m cb))) :
    Ob Tryz.prog ops Fs w0 a0 i ⟨d, .build 72 #[(0, x), (1, y)], ty, pos, after, g⟩ (Is (.agg #[.slice A n ca, .slice B m cb])) :=
  Ob.stay hw fun a w cx => ⟨_, by
    have h1 : a.eval x = .slice A n ca := hx a w cx
    have h2 : a.eval y = .slice B m cb := hy a w cx
    generalize a.eval = ρ at h1 h2
    simp [execOp, h1, h2, go_sem], rfl⟩
theorem Ob.mkDot {x y : Operand} {m n : Int} (hw : Wanted ops Fs w0 a0 i ⟨d, .build 79 #[(0, x), (1, y)], ty, pos, after, g⟩) (hx : Has ops Fs w0 a0 i ⟨d, .build 79 #[(0, x), (1, y)], ty, pos, after, g⟩ x (IsI m)) (hy : Has ops Fs w0 a0 i ⟨d, .build 79 #[(0, x), (1, y)], ty, pos, after, g⟩ y (IsI n)) :
    Ob Tryz.prog ops Fs w0 a0 i ⟨d, .build 79 #[(0, x), (1, y)], ty, pos, after, g⟩ (Is (.agg #[.int .i64 m, .int .i64 n])) :=
  Ob.stay hw fun a w cx => ⟨.agg #[.int .i64 m, .int .i64 n], by
    have h1 : a.eval x = .int .i64 m := hx a w cx
    have h2 : a.eval y = .int .i64 n := hy a w cx
    generalize a.eval = ρ at h1 h2
    simp [execOp, h1, h2, go_sem], rfl⟩
theorem Ob.mkDots169 {x : Operand} {m n : Int} (hw : Wanted ops Fs w0 a0 i ⟨d, .buildSlice 69 1 #[(0, x)], ty, pos, after, g⟩) (hx : Has ops Fs w0 a0 i ⟨d, .buildSlice 69 1 #[(0, x)], ty, pos, after, g⟩ x (Is (.agg #[.int .i64 m, .int .i64 n]))) :
    Ob Tryz.prog ops Fs w0 a0 i ⟨d, .buildSlice 69 1 #[(0, x)], ty, pos, after, g⟩ (IsDots [(m, n)]) :=
  Ob.any hw fun a w cx => by
    have h1 : a.eval x = .agg #[.int .i64 m, .int .i64 n] := hx a w cx
    refine ⟨.slice (some ⟨w.heap.size, 0, none⟩) 1 1, w.alloc (.cells #[.int .i64 m, .int .i64 n] 79), ?_, by go_grown, some ⟨w.heap.size, 0, none⟩, 1, 1, rfl, rfl, Nat.le_refl _, by unfold maxLen; omega, (fun e => nomatch e), fun j e hj => ?_⟩
    · generalize a.eval = ρ at h1
      simp [execOp, h1, go_sem]
    · have : j = 0 := by have := (List.getElem?_eq_some_iff.1 hj).1; simpa using this
      subst this
      simp at hj; subst hj
      exact ⟨w.heap.size, 0, rfl, by simp, by simp [go_sem], by simp [go_sem]⟩
theorem Ob.mkDots170 {x : Operand} {m n : Int} (hw : Wanted ops Fs w0 a0 i ⟨d, .buildSlice 70 1 #[(0, x)], ty, pos, after, g⟩) (hx : Has ops Fs w0 a0 i ⟨d, .buildSlice 70 1 #[(0, x)], ty, pos, after, g⟩ x (Is (.agg #[.int .i64 m, .int .i64 n]))) :
    Ob Tryz.prog ops Fs w0 a0 i ⟨d, .buildSlice 70 1 #[(0, x)], ty, pos, after, g⟩ (IsDots [(m, n)]) :=
  Ob.any hw fun a w cx => by
    have h1 : a.eval x = .agg #[.int .i64 m, .int .i64 n] := hx a w cx
    refine ⟨.slice (some ⟨w.heap.size, 0, none⟩) 1 1, w.alloc (.cells #[.int .i64 m, .int .i64 n] 79), ?_, by go_grown, some ⟨w.heap.size, 0, none⟩, 1, 1, rfl, rfl, Nat.le_refl _, by unfold maxLen; omega, (fun e => nomatch e), fun j e hj => ?_⟩
    · generalize a.eval = ρ at h1
      simp [execOp, h1, go_sem]
    · have : j = 0 := by have := (List.getElem?_eq_some_iff.1 hj).1; simpa using this
      subst this
      simp at hj; subst hj
      exact ⟨w.heap.size, 0, rfl, by simp, by simp [go_sem], by simp [go_sem]⟩
end
end Go.Proofs.YthoacbdoogpaiaaGreatDoor

/-
  Slices whose elements are records without pointers: what their cells read as; rows of the call's own, and what an append makes of them. (For any element: a bundle says how its cells look.)
-/
namespace Go.Proofs.YthoacbdoogpaiaaGreatDoor
open Go.RowKit

/-- How an element's cells look. -/
structure Enc (α : Type) where
  z : Nat
  enc : α → List Value
  len : ∀ x, (enc x).length = z
  one : ∀ x, ∀ u ∈ enc x, u.oneCell' = true
def Enc.all {α : Type} (e : Enc α) (l : List α) : List Value := l.flatMap e.enc
section
variable {α : Type} {e : Enc α}
theorem Enc.all_cons (x : α) (l : List α) : e.all (x :: l) = e.enc x ++ e.all l := rfl
theorem Enc.all_append (a b : List α) : e.all (a ++ b) = e.all a ++ e.all b := by unfold Enc.all; rw [List.flatMap_append]
theorem Enc.all_length : ∀ l : List α, (e.all l).length = l.length * e.z
  | [] => by simp [Enc.all]
  | x :: l => by rw [Enc.all_cons, List.length_append, e.len, Enc.all_length l, List.length_cons, Nat.add_mul]; omega
theorem Enc.all_get : ∀ (l : List α) (i : Nat) (x : α), l[i]? = some x → ∀ j u, (e.enc x)[j]? = some u → (e.all l)[i * e.z + j]? = some u
  | [], i, x, h, _, _, _ => by simp at h
  | a :: l, 0, x, h, j, u, hj => by
    simp at h; subst h
    rw [Enc.all_cons, List.getElem?_append_left (by have := (List.getElem?_eq_some_iff.1 hj).1; omega)]
    simpa using hj
  | a :: l, i + 1, x, h, j, u, hj => by
    have := Enc.all_get l i x (by simpa using h) j u hj
    rw [Enc.all_cons, List.getElem?_append_right (by rw [e.len, Nat.add_mul]; omega)]
    have e2 : (i + 1) * e.z + j - (e.enc a).length = i * e.z + j := by rw [e.len, Nat.add_mul]; omega
    rw [e2]; exact this
theorem Enc.all_at (l : List α) (j : Nat) (u : Value) (h : (e.all l)[j]? = some u) : ∃ i x, l[i]? = some x ∧ ∃ r, (e.enc x)[r]? = some u ∧ j = i * e.z + r := by
  induction l generalizing j with
  | nil => simp [Enc.all] at h
  | cons a l ih =>
    rw [Enc.all_cons] at h
    rcases Nat.lt_or_ge j e.z with hj | hj
    · rw [List.getElem?_append_left (by rw [e.len]; exact hj)] at h
      exact ⟨0, a, rfl, j, h, by omega⟩
    · rw [List.getElem?_append_right (by rw [e.len]; exact hj), e.len] at h
      obtain ⟨i, x, h1, r, h2, h3⟩ := ih _ h
      exact ⟨i + 1, x, by simpa using h1, r, h2, by rw [Nat.add_mul]; omega⟩
theorem Enc.all_one (l : List α) : ∀ u ∈ e.all l, u.oneCell' = true := by
  intro u hu
  obtain ⟨j, hj⟩ := List.getElem?_of_mem hu
  obtain ⟨_, x, _, r, h, _⟩ := Enc.all_at l j u hj
  exact e.one x u (List.mem_of_getElem? h)
/-- A slice whose cells read as a list. -/
structure Sl (e : Enc α) (w : World) (A : Option Addr) (n c : Nat) (l : List α) : Prop where
  len : n = l.length
  cap : n ≤ c
  max : c ≤ maxLen
  nil : A = none → c = 0
  cell : ∀ i x, l[i]? = some x → ∃ b o, A = some ⟨b, o, none⟩ ∧ b < w.heap.size ∧ ∀ j u, (e.enc x)[j]? = some u → w.cell? ⟨b, o + i * e.z + j, none⟩ = some u
def IsSl (e : Enc α) (l : List α) (w : World) (v : Value) : Prop := ∃ A n c, v = .slice A n c ∧ Sl e w A n c l
/-- A row of the call's own, from block B on. -/
def OwnSl (e : Enc α) (ty : TypeId) (w : World) (B : Nat) (v : Value) (l : List α) : Prop := w.ownsRow B ty e.z v l.length (e.all l)
def IsOwn (e : Enc α) (ty : TypeId) (B : Nat) (l : List α) (w : World) (v : Value) : Prop := OwnSl e ty w B v l
variable {w w' : World} {A : Option Addr} {n c B : Nat} {l k : List α} {ty : TypeId} {v : Value}
theorem Sl.mono (h : Sl e w A n c l) (hb : Below w.heap.size w w') : Sl e w' A n c l :=
  ⟨h.len, h.cap, h.max, h.nil, fun i x hi => by
    obtain ⟨b, o, rfl, hlt, h1⟩ := h.cell i x hi
    exact ⟨b, o, rfl, Nat.lt_of_lt_of_le hlt hb.size, fun j u hj => (hb.cell (p := ⟨b, _, none⟩) hlt).trans (h1 j u hj)⟩⟩
theorem Sl.big (h : Sl e w A n c l) : n ≤ 9223372036854775807 := by have := h.cap; have := h.max; unfold maxLen at this; omega
theorem Sl.nil_ (e : Enc α) (w : World) : Sl e w none 0 0 [] := ⟨rfl, Nat.le_refl _, by unfold maxLen; omega, fun _ => rfl, fun i x h => by simp at h⟩
theorem Sl.at_ (h : Sl e w A n c l) {i : Nat} (hi : i < n) : ∃ b o x, A = some ⟨b, o, none⟩ ∧ b < w.heap.size ∧ l[i]? = some x ∧ l.drop i = x :: l.drop (i + 1) ∧ ∀ j u, (e.enc x)[j]? = some u → w.cell? ⟨b, o + i * e.z + j, none⟩ = some u := by
  have hl : i < l.length := by have := h.len; omega
  obtain ⟨b, o, e1, hb, h1⟩ := h.cell i l[i] (List.getElem?_eq_getElem hl)
  exact ⟨b, o, l[i], e1, hb, List.getElem?_eq_getElem hl, by rw [List.drop_eq_getElem_cons hl], h1⟩
theorem Sl.cells (h : Sl e w A n c l) {a : Addr} (hA : A = some a) (j : Nat) (u : Value) (hu : (e.all l)[j]? = some u) : w.cell? (a.add j) = some u := by
  obtain ⟨i, x, hi, r, hr, rfl⟩ := Enc.all_at l j u hu
  obtain ⟨b, o, e1, _, h1⟩ := h.cell i x hi
  rw [hA] at e1; cases e1
  rw [add_lit, ← Nat.add_assoc]
  exact h1 r u hr
theorem million_le : 1000000 ≤ maxLen := by unfold maxLen; decide
/-- A slice of new cells. -/
theorem Sl.new (e : Enc α) (w : World) (l : List α) (hl : l.length ≤ 1000000) (cs : Array Value) (hcs : cs.toList = e.all l) (ty : TypeId) : Sl e (w.alloc (.cells cs ty)) (some ⟨w.heap.size, 0, none⟩) l.length l.length l := by
  have hlt : w.heap.size < (w.alloc (.cells cs ty)).heap.size := (Array.getElem?_eq_some_iff.1 (heap_alloc_new w _)).1
  refine ⟨rfl, Nat.le_refl _, Nat.le_trans hl million_le, (fun e => nomatch e), fun i x hi => ⟨w.heap.size, 0, rfl, hlt, fun j u hj => ?_⟩⟩
  have h1 := Enc.all_get l i x hi j u hj
  rw [← hcs] at h1
  rw [Nat.zero_add, cell_of_row _ _ _ cs ty (0, 0) (heap_alloc_new w _), ← Array.getElem?_toList]
  exact h1
theorem OwnSl.mono (h : OwnSl e ty w B v l) (hb : Below w.heap.size w w') : OwnSl e ty w' B v l := by
  refine ⟨h.1, ?_⟩
  rcases h.2 with h2 | ⟨g, cap, cur, hv, hg, hh, r⟩
  · exact .inl h2
  · exact .inr ⟨g, cap, cur, hv, hg, (hb.block g (Array.getElem?_eq_some_iff.1 hh).1).trans hh, r⟩
theorem OwnSl.low (h : OwnSl e ty w B v l) {B' : Nat} (hB : B' ≤ B) : OwnSl e ty w B' v l := by
  refine ⟨h.1, ?_⟩
  rcases h.2 with h2 | ⟨g, cap, cur, hv, hg, r⟩
  · exact .inl h2
  · exact .inr ⟨g, cap, cur, hv, by omega, r⟩
theorem OwnSl.own (h : OwnSl e ty w B v l) : ∀ q, v.ownBlock = some q → B ≤ q ∧ q < w.heap.size := World.ownsRow.lt h
theorem OwnSl.grown {w1 : World} {row : Option Nat} (h : OwnSl e ty w B v l) (hg : w.grownBy w1 row) (hne : v.ownBlock = none ∨ v.ownBlock ≠ row) : OwnSl e ty w1 B v l := World.ownsRow.kept h hg hne
theorem OwnSl.nil_ (e : Enc α) (ty : TypeId) (w : World) (B : Nat) : OwnSl e ty w B (.slice none 0 0) [] := World.ownsRow_nil w B _ _
theorem OwnSl.sl (h : OwnSl e ty w B v l) : ∃ A c, v = .slice A l.length c ∧ Sl e w A l.length c l := by
  rcases h.2 with ⟨rfl, h0⟩ | ⟨g, cap, cur, rfl, hg, hh, hn, hm, hs, ht⟩
  · have : l = [] := List.eq_nil_of_length_eq_zero h0
    subst this
    exact ⟨none, 0, rfl, Sl.nil_ e w⟩
  · refine ⟨some ⟨g, 0, none⟩, cap, rfl, rfl, hn, hm, (fun e => nomatch e), fun i x hi => ⟨g, 0, rfl, (Array.getElem?_eq_some_iff.1 hh).1, fun j u hj => ?_⟩⟩
    have := World.ownsRow.cells (v := .slice (some ⟨g, 0, none⟩) l.length cap) h rfl _ u (Enc.all_get l i x hi j u hj)
    rw [add_lit, ← Nat.add_assoc] at this
    exact this
theorem IsOwn.sl (h : IsOwn e ty B l w v) : IsSl e l w v := let ⟨A, c, e1, h'⟩ := OwnSl.sl h; ⟨A, _, c, e1, h'⟩
/-- The closed facts on an element type. -/
structure Inf (P : Program) (ty : TypeId) (e : Enc α) (bytes : Nat) : Prop where
  ex : ∃ (i : TypeInfo) (z : Value), P.info? ty = some i ∧ i.zero = some z ∧ i.size = e.z ∧ i.bytes = bytes ∧ z.cells.size = e.z
  pos : 0 < e.z
  by_ : bytes ≤ 1000
/-- An append onto a row of the call's own. -/
theorem run_appS {P : Program} {bytes : Nat} {t rt : TypeId} (inf : Inf P ty e bytes) (ht : P.underlying t = some (.slice ty)) (h : OwnSl e ty w B v l) (hk : Sl e w A n c k) (hs : l.length + k.length ≤ 1000000000) (hB : B ≤ w.heap.size) :
    ∃ v' w', (Builtin.append_ #[t, t] rt #[v, .slice A n c]).run P w = .ok v' w' ∧ OwnSl e ty w' B v' (l ++ k) ∧ w.grownBy w' v.ownBlock ∧ (v'.ownBlock = v.ownBlock ∨ v'.ownBlock = some w.heap.size) := by
  obtain ⟨i, z, hi, hz, hsz, hby, hzs⟩ := inf.ex
  have hpos := inf.pos
  have hbb := inf.by_
  cases A with
  | none =>
    have hc := hk.nil rfl
    have hn : n = 0 := by have := hk.cap; omega
    subst hc; subst hn
    have hk0 : k = [] := List.eq_nil_of_length_eq_zero hk.len.symm
    subst hk0
    refine ⟨v, w, run_append_owned_none (P := P) (w := w) B t rt ty i e.z ht hi v l.length (e.all l) h, by rw [List.append_nil]; exact h, ⟨rfl, rfl, rfl, Nat.le_refl _, fun _ _ _ => rfl⟩, .inl rfl⟩
  | some a =>
    have hkl := hk.len
    obtain ⟨v', w', h1, h2, h3, _, h5⟩ := run_append_own_at (P := P) w B t rt ty i z e.z bytes ht hi hz hsz hby hzs hpos v l.length (e.all l) h a n c (e.all k) (by rw [Enc.all_length, hk.len]) (fun j u hu => hk.cells rfl j u hu) (Enc.all_one k)
      (by rw [hkl]; unfold maxLen; omega) (by rw [hkl]; exact Nat.le_trans (Nat.mul_le_mul hs hbb) (by decide)) hB
    refine ⟨v', w', h1, ?_, h3, h5⟩
    unfold OwnSl
    rw [List.length_append, Enc.all_append]
    rw [hkl] at h2
    exact h2
theorem wpList_appS {P : Program} {bytes : Nat} {t : TypeId} {ops : Array Oper} {rest : List Oper} {o : Oper} {a : Act} {Q : Exit → Act → World → Prop} {s x : Operand} (inf : Inf P ty e bytes)
    (hgd : o.guard = none) (ho : o.op = .call { callee := .builtin .append, args := #[s, x], argTypes := #[t, t] }) (ht : P.underlying t = some (.slice ty)) (hsv : a.eval s = v) (hxv : a.eval x = .slice A n c)
    (h : OwnSl e ty w B v l) (hk : Sl e w A n c k) (hs : l.length + k.length ≤ 1000000000) (hB : B ≤ w.heap.size)
    (K : ∀ v' w', OwnSl e ty w' B v' (l ++ k) → w.grownBy w' v.ownBlock → (v'.ownBlock = v.ownBlock ∨ v'.ownBlock = some w.heap.size) → wpList P ops Q rest (a.put o.dst v') w') : wpList P ops Q (o :: rest) a w := by
  refine wpList_plain hgd fun K' hK => ?_
  obtain ⟨v', w', hr, h2, h3, h4⟩ := run_appS (rt := o.type) inf ht h hk hs hB
  unfold Oper.wp
  simp [execOp, ho, resolve, invoke, builtin, hsv, hxv, hr, Result.andThen]
  exact hK _ _ (K v' w' h2 h3 h4)
end
instance {α : Type} (e : Enc α) (l : List α) : Grows (IsSl e l) := ⟨fun hb ⟨A, n, c, e1, h⟩ => ⟨A, n, c, e1, h.mono hb⟩⟩
instance {α : Type} (e : Enc α) (ty : TypeId) (B : Nat) (l : List α) : Grows (IsOwn e ty B l) := ⟨fun hb h => OwnSl.mono h hb⟩

/-! ### Bytes -/
def encB : Enc UInt8 := ⟨1, fun x => [.int .u8 x.toNat], fun _ => rfl, fun x u hu => by rw [List.mem_singleton.1 hu]; rfl⟩
abbrev Bytes (w : World) (A : Option Addr) (n c : Nat) (l : List UInt8) : Prop := Sl encB w A n c l
abbrev IsBytes (l : List UInt8) := IsSl encB l
abbrev strV (l : List UInt8) : Value := .string ⟨⟨l⟩⟩
end Go.Proofs.YthoacbdoogpaiaaGreatDoor

/-
  Bits of unsigned numbers.
-/
namespace Go.Proofs.YthoacbdoogpaiaaGreatDoor
open Go.RowKit

theorem wrap_un {k : IntKind} (hk : k.signed = false) {n : Nat} (h : n < 2 ^ k.bits) : k.wrap (n : Int) = n := by
  unfold IntKind.wrap
  simp only [hk, Bool.false_and, Bool.false_eq_true, if_false]
  have : ((2 : Int) ^ k.bits) = ((2 ^ k.bits : Nat) : Int) := by norm_cast
  rw [this]
  exact_mod_cast Nat.mod_eq_of_lt h
theorem ofInt_nat (k n : Nat) : BitVec.ofInt k (n : Int) = BitVec.ofNat k n := by
  apply BitVec.eq_of_toNat_eq
  rw [BitVec.toNat_ofInt, BitVec.toNat_ofNat]
  have : ((2 ^ k : Nat) : Int) = ((2 ^ k : Nat) : Int) := rfl
  omega
section
variable {k : IntKind} {a b : Nat}
theorem bits_and_nat (hk : k.signed = false) (ha : a < 2 ^ k.bits) (hb : b < 2 ^ k.bits) : Go.bits .and k (a : Int) (b : Int) = ((a &&& b : Nat) : Int) := by
  unfold Go.bits
  simp only [ofInt_nat]
  rw [BitVec.toNat_and, BitVec.toNat_ofNat, BitVec.toNat_ofNat, Nat.mod_eq_of_lt ha, Nat.mod_eq_of_lt hb]
  exact wrap_un hk (Nat.lt_of_le_of_lt Nat.and_le_left ha)
theorem bits_or_nat (hk : k.signed = false) (ha : a < 2 ^ k.bits) (hb : b < 2 ^ k.bits) : Go.bits .or k (a : Int) (b : Int) = ((a ||| b : Nat) : Int) := by
  unfold Go.bits
  simp only [ofInt_nat]
  rw [BitVec.toNat_or, BitVec.toNat_ofNat, BitVec.toNat_ofNat, Nat.mod_eq_of_lt ha, Nat.mod_eq_of_lt hb]
  exact wrap_un hk (Nat.or_lt_two_pow ha hb)
theorem bits_xor_nat (hk : k.signed = false) (ha : a < 2 ^ k.bits) (hb : b < 2 ^ k.bits) : Go.bits .xor k (a : Int) (b : Int) = ((a ^^^ b : Nat) : Int) := by
  unfold Go.bits
  simp only [ofInt_nat]
  rw [BitVec.toNat_xor, BitVec.toNat_ofNat, BitVec.toNat_ofNat, Nat.mod_eq_of_lt ha, Nat.mod_eq_of_lt hb]
  exact wrap_un hk (Nat.xor_lt_two_pow ha hb)
end
theorem and_u8 {a b : Nat} (ha : a < 256) (hb : b < 256) : Go.bits .and .u8 (a : Int) (b : Int) = ((a &&& b : Nat) : Int) := bits_and_nat (k := .u8) rfl ha hb
theorem or_u8 {a b : Nat} (ha : a < 256) (hb : b < 256) : Go.bits .or .u8 (a : Int) (b : Int) = ((a ||| b : Nat) : Int) := bits_or_nat (k := .u8) rfl ha hb
theorem xor_u8 {a b : Nat} (ha : a < 256) (hb : b < 256) : Go.bits .xor .u8 (a : Int) (b : Int) = ((a ^^^ b : Nat) : Int) := bits_xor_nat (k := .u8) rfl ha hb
theorem wrap_u8 {a : Nat} (ha : a < 256) : IntKind.u8.wrap (a : Int) = a := wrap_un (k := .u8) rfl ha
theorem and_u32 {a b : Nat} (ha : a < 4294967296) (hb : b < 4294967296) : Go.bits .and .u32 (a : Int) (b : Int) = ((a &&& b : Nat) : Int) := bits_and_nat (k := .u32) rfl ha hb
theorem or_u32 {a b : Nat} (ha : a < 4294967296) (hb : b < 4294967296) : Go.bits .or .u32 (a : Int) (b : Int) = ((a ||| b : Nat) : Int) := bits_or_nat (k := .u32) rfl ha hb
theorem xor_u32 {a b : Nat} (ha : a < 4294967296) (hb : b < 4294967296) : Go.bits .xor .u32 (a : Int) (b : Int) = ((a ^^^ b : Nat) : Int) := bits_xor_nat (k := .u32) rfl ha hb
theorem wrap_u32 {a : Nat} (ha : a < 4294967296) : IntKind.u32.wrap (a : Int) = a := wrap_un (k := .u32) rfl ha
theorem and_u64 {a b : Nat} (ha : a < 18446744073709551616) (hb : b < 18446744073709551616) : Go.bits .and .u64 (a : Int) (b : Int) = ((a &&& b : Nat) : Int) := bits_and_nat (k := .u64) rfl ha hb
theorem or_u64 {a b : Nat} (ha : a < 18446744073709551616) (hb : b < 18446744073709551616) : Go.bits .or .u64 (a : Int) (b : Int) = ((a ||| b : Nat) : Int) := bits_or_nat (k := .u64) rfl ha hb
theorem xor_u64 {a b : Nat} (ha : a < 18446744073709551616) (hb : b < 18446744073709551616) : Go.bits .xor .u64 (a : Int) (b : Int) = ((a ^^^ b : Nat) : Int) := bits_xor_nat (k := .u64) rfl ha hb
theorem wrap_u64 {a : Nat} (ha : a < 18446744073709551616) : IntKind.u64.wrap (a : Int) = a := wrap_un (k := .u64) rfl ha

/-! ### The check sum, in plain terms -/
def poly : Nat := 3988292384
def half (n : Nat) : Nat := if n % 2 = 1 then (n / 2) ^^^ poly else n / 2
def tabN (i : Nat) : Nat := half (half (half (half (half (half (half (half i)))))))
/-- A step by the table, a step by bits. -/
def stepT (n : Nat) (x : UInt8) : Nat := tabN ((n % 256) ^^^ x.toNat) ^^^ (n / 256)
def stepB (n : Nat) (x : UInt8) : Nat := tabN (n ^^^ x.toNat)
theorem half_lt {n : Nat} (h : n < 4294967296) : half n < 4294967296 := by
  unfold half
  split
  · exact Nat.xor_lt_two_pow (n := 32) (by omega) (by unfold poly; omega)
  · omega
theorem tab_lt {n : Nat} (h : n < 4294967296) : tabN n < 4294967296 := half_lt (half_lt (half_lt (half_lt (half_lt (half_lt (half_lt (half_lt h)))))))
theorem xor_div2 (a b : Nat) : (a ^^^ b) / 2 = (a / 2) ^^^ (b / 2) := by
  have := Nat.xor_div_two_pow (a := a) (b := b) (n := 1)
  simpa using this
theorem xor_mod2 (a b : Nat) : (a ^^^ b) % 2 = (a % 2 + b % 2) % 2 := by
  have := Nat.xor_mod_two_pow (a := a) (b := b) (n := 1)
  have h : (a ^^^ b) % 2 = (a % 2) ^^^ (b % 2) := by simpa using this
  rw [h]
  rcases Nat.mod_two_eq_zero_or_one a with h1 | h1 <;> rcases Nat.mod_two_eq_zero_or_one b with h2 | h2 <;> rw [h1, h2] <;> rfl
/-- Half a step is linear. -/
theorem half_xor (a b : Nat) : half (a ^^^ b) = half a ^^^ half b := by
  unfold half
  rw [xor_div2, xor_mod2]
  rcases Nat.mod_two_eq_zero_or_one a with h1 | h1 <;> rcases Nat.mod_two_eq_zero_or_one b with h2 | h2 <;> simp only [h1, h2]
  · simp
  · simp [Nat.xor_assoc]
  · simp only [Nat.zero_ne_one, if_false, if_true]
    rw [Nat.xor_assoc, Nat.xor_comm (b / 2) poly, ← Nat.xor_assoc]
  · simp only [if_true, show ((1 + 1) % 2 = 1) = False by simp, if_false]
    have e : (a / 2 ^^^ poly) ^^^ (b / 2 ^^^ poly) = (a / 2 ^^^ b / 2) ^^^ (poly ^^^ poly) := by
      rw [Nat.xor_assoc, Nat.xor_assoc]
      congr 1
      rw [← Nat.xor_assoc, ← Nat.xor_assoc, Nat.xor_comm poly (b / 2)]
    rw [e, Nat.xor_self, Nat.xor_zero]
theorem tab_xor (a b : Nat) : tabN (a ^^^ b) = tabN a ^^^ tabN b := by
  unfold tabN
  rw [half_xor, half_xor, half_xor, half_xor, half_xor, half_xor, half_xor, half_xor]
theorem half_even {n : Nat} : half (2 * n) = n := by
  unfold half
  rw [if_neg (by omega)]; omega
theorem tab_high (n : Nat) : tabN (n * 256) = n := by
  unfold tabN
  have : n * 256 = 2 * (2 * (2 * (2 * (2 * (2 * (2 * (2 * n))))))) := by omega
  rw [this, half_even, half_even, half_even, half_even, half_even, half_even, half_even, half_even]
theorem split_low (n : Nat) : n = (n % 256) ^^^ (n / 256 * 256) := by
  apply Nat.eq_of_testBit_eq
  intro i
  rw [Nat.testBit_xor]
  have h1 : (n % 256).testBit i = (decide (i < 8) && n.testBit i) := by
    have := Nat.testBit_mod_two_pow n 8 i
    simpa using this
  have h2 : (n / 256 * 256).testBit i = (decide (8 ≤ i) && n.testBit i) := by
    have e : n / 256 * 256 = (n >>> 8) <<< 8 := by rw [Nat.shiftRight_eq_div_pow, Nat.shiftLeft_eq]
    rw [e, Nat.testBit_shiftLeft, Nat.testBit_shiftRight]
    by_cases h : 8 ≤ i
    · simp [h]
    · simp [h]
  rw [h1, h2]
  by_cases h : i < 8
  · have : ¬ 8 ≤ i := by omega
    simp [h, this]
  · have : 8 ≤ i := by omega
    simp [h, this]
theorem step_eq (n : Nat) (x : UInt8) : stepT n x = stepB n x := by
  unfold stepT stepB
  have e : n ^^^ x.toNat = ((n % 256) ^^^ x.toNat) ^^^ (n / 256 * 256) := by
    have h := split_low n
    rw [Nat.xor_assoc, Nat.xor_comm x.toNat, ← Nat.xor_assoc, ← h]
  rw [e, tab_xor ((n % 256) ^^^ x.toNat), tab_high]
def crcFrom (n : Nat) (l : List UInt8) : Nat := l.foldl stepT n
def crcS (l : List UInt8) : Nat := 4294967295 - crcFrom 4294967295 l
end Go.Proofs.YthoacbdoogpaiaaGreatDoor

/-
  The check sum: the reference's steps.
-/
namespace Go.Proofs.YthoacbdoogpaiaaGreatDoor
open Go.RowKit

abbrev IsK (k : IntKind) (n : Nat) := Is (.int k (n : Int))
theorem retK {w w' : World} {k : IntKind} {n : Nat} {z : Int} (e : z = (n : Int)) (hb : Below w.heap.size w w') : Ret w (IsK k n) (.returned (.int k z)) w' := ⟨_, rfl, hb, by rw [e]; rfl⟩
def halves : Nat → Nat → Nat
  | 0, n => n
  | k + 1, n => halves k (half n)
theorem halves_8 (n : Nat) : halves 8 n = tabN n := rfl
def HalfRel (w : World) (n : Nat) (s i : Value) (wr : World) : Prop :=
  ∃ k m : Nat, i = .int .i64 k ∧ s = .int .u32 m ∧ m < 4294967296 ∧ k ≤ 8 ∧ Below w.heap.size w wr ∧ halves 8 n = halves (8 - k) m
theorem HalfRel.next {w wr : World} {n k m m' : Nat} (hm : m < 4294967296) (hk : k < 8) (hb : Below w.heap.size w wr) (hs : halves 8 n = halves (8 - k) m) (e : m' = half m) {i : Value} {z : Int} (hi : i = .int .i64 ((k : Int) + 1)) (hz : z = (m' : Int)) : HalfRel w n (.int .u32 z) i wr :=
  ⟨k + 1, m', by rw [hi]; simp, by rw [hz], by rw [e]; exact half_lt hm, hk, hb, by rw [hs, e, show 8 - k = (8 - (k + 1)) + 1 by omega]; rfl⟩
theorem half_even_ {m : Nat} (h : ((m : Int) % 2 == 1) = false) : ((m : Int) / 2) = (half m : Nat) := by
  have h0 := beq_eq_false_iff_ne.1 h
  unfold half
  rw [if_neg (by omega)]; omega
theorem half_odd_ {m : Nat} (hm : m < 4294967296) (h : ((m : Int) % 2 == 1) = true) : Go.bits .xor .u32 ((m : Int) / 2) 3988292384 = (half m : Nat) := by
  have h0 := beq_iff_eq.1 h
  unfold half
  rw [if_pos (by omega)]
  exact xor_u32 (a := m / 2) (b := poly) (by omega) (by unfold poly; omega)

set_option maxHeartbeats 1000000 in
theorem rstep (n : Nat) (x : UInt8) (w : World) (hn : n < 4294967296) :
    Calls Tryz.prog 99 #[.int .u32 n, .int .u8 x.toNat] w (Ret w (IsK .u32 (stepB n x))) := by
  have hx : x.toNat < 4294967296 := by have := x.toNat_lt; omega
  have hw := wrap_u32 hx
  have hxr := xor_u32 hn hx
  have hm : n ^^^ x.toNat < 4294967296 := Nat.xor_lt_two_pow (n := 32) hn hx
  go_enter Tryz.func99, Tryz.ntmps99
  go_wp2
  go_loopw [0, 5] (fun s i wr => HalfRel w (n ^^^ x.toNat) s i wr) (fun _ i _ => 8 - (intOf i).toNat)
  case atStart => exact ⟨0, _, rfl, rfl, hm, by omega, Below.refl _ _, rfl⟩
  case round =>
    obtain ⟨k, m, rfl, rfl, hm, hk, hbw, hs⟩ := hrel
    by_cases hlt : k < 8
    · have HS := Lib.hid hs; clear hs
      go_wp2
      · rename_i ht
        refine ⟨HalfRel.next hm hlt hbw HS.out rfl rfl (half_odd_ hm ht), ?_⟩
        simp [intOf]; omega
      · rename_i ht
        refine ⟨HalfRel.next hm hlt hbw HS.out rfl rfl (half_even_ ht), ?_⟩
        simp [intOf]; omega
    · have hk8 : k = 8 := by omega
      subst hk8
      have e : stepB n x = m := hs
      have E := Lib.hid e
      clear hs e
      go_wp2
      go_ret
      exact retK (by rw [E.out]) hbw

def SumRel (f : Nat → UInt8 → Nat) (w : World) (n0 n : Nat) (l : List UInt8) (s i : Value) (wr : World) : Prop :=
  ∃ k m : Nat, i = .int .i64 k ∧ s = .int .u32 m ∧ m < 4294967296 ∧ k ≤ n ∧ Below w.heap.size w wr ∧ l.foldl f n0 = (l.drop k).foldl f m
theorem SumRel.next {f : Nat → UInt8 → Nat} {w wr : World} {n0 n k m m' : Nat} {l : List UInt8} {x : UInt8} {i : Value} (hm : m' < 4294967296) (hk : k < n) (hb : Below w.heap.size w wr) (hs : l.foldl f n0 = (l.drop k).foldl f m) (hd : l.drop k = x :: l.drop (k + 1)) (e : m' = f m x) (hi : i = .int .i64 ((k : Int) + 1)) : SumRel f w n0 n l (.int .u32 m') i wr :=
  ⟨k + 1, m', by rw [hi]; simp, rfl, hm, hk, hb, by rw [hs, hd, e]; rfl⟩
/-- A byte of a slice. -/
theorem Sl.byte {w : World} {A : Option Addr} {n c : Nat} {l : List UInt8} (h : Sl encB w A n c l) {i : Nat} (hi : i < n) : ∃ b o x, A = some ⟨b, o, none⟩ ∧ b < w.heap.size ∧ l[i]? = some x ∧ l.drop i = x :: l.drop (i + 1) ∧ w.cell? ⟨b, o + i, none⟩ = some (.int .u8 x.toNat) := by
  obtain ⟨b, o, x, h1, h2, h3, h4, h5⟩ := h.at_ hi
  refine ⟨b, o, x, h1, h2, h3, h4, ?_⟩
  have := h5 0 _ rfl
  simpa [encB] using this
theorem stepB_lt {n : Nat} {x : UInt8} (h : n < 4294967296) : stepB n x < 4294967296 := tab_lt (Nat.xor_lt_two_pow (n := 32) h (by have := x.toNat_lt; omega))
theorem foldB_lt {n : Nat} : ∀ l : List UInt8, n < 4294967296 → l.foldl stepB n < 4294967296 := by
  intro l
  induction l generalizing n with
  | nil => exact fun h => h
  | cons x l ih => exact fun h => ih (stepB_lt h)
theorem fold_same (n : Nat) (l : List UInt8) : l.foldl stepB n = crcFrom n l := by
  unfold crcFrom
  congr 1
  funext n x
  exact (step_eq n x).symm

set_option maxHeartbeats 1000000 in
theorem rupdate0 (A : Option Addr) (n c : Nat) (l : List UInt8) (w : World) (h : Sl encB w A n c l) :
    Calls Tryz.prog 70 #[.int .u32 0, .slice A n c] w (Ret w (IsK .u32 (crcS l))) := by
  have hn := h.big
  go_enter Tryz.func70, Tryz.ntmps70
  go_wp2
  go_loopw [5, 6] (fun s i wr => SumRel stepB w 4294967295 n l s i wr) (fun _ i _ => n - (intOf i).toNat)
  case atStart => exact ⟨0, 4294967295, rfl, rfl, by omega, by omega, Below.refl _ _, rfl⟩
  case round =>
    obtain ⟨k, m, rfl, rfl, hm, hk, hbw, hs⟩ := hrel
    by_cases hlt : k < n
    · obtain ⟨b, o, x, rfl, -, -, d1, c1⟩ := (h.mono hbw).byte hlt
      have HS := Lib.hid hs; have D := Lib.hid d1; clear hs d1
      have C := Lib.hid (rstep m x wr hm)
      go_wp2_with (go_at_call 99; ((with_reducible refine C.out.mono ?_); rintro e w1 ⟨_, rfl, hb1, rfl⟩))
      go_roundw
      case rel => exact SumRel.next (stepB_lt hm) hlt (hbw.le hb1) HS.out D.out rfl rfl
      case measure => simp [intOf]; omega
    · have e : crcS l = 4294967295 - m := by unfold crcS; rw [← fold_same, hs, List.drop_of_length_le (by rw [← h.len]; omega)]; rfl
      have E := Lib.hid e; clear hs e
      go_wp2
      go_ret
      exact retK (by rw [E.out]; omega) hbw
theorem rsum (A : Option Addr) (n c : Nat) (l : List UInt8) (w : World) (h : Sl encB w A n c l) :
    Calls Tryz.prog 36 #[.slice A n c] w (Ret w (IsK .u32 (crcS l))) := by
  have C := Lib.hid (rupdate0 A n c l w h); clear h
  go_enter Tryz.func36, Tryz.ntmps36
  go_wp2_with (go_at_call 70; ((with_reducible refine C.out.mono ?_); rintro e w1 ⟨_, rfl, hb1, rfl⟩))
  go_ret
  exact retK rfl hb1
end Go.Proofs.YthoacbdoogpaiaaGreatDoor

/-
  The dots' own functions, in the code and in the reference: valid, before, compare.
-/
namespace Go.Proofs.YthoacbdoogpaiaaGreatDoor
open Go.RowKit

def validD (d : Dot) : Bool := decide (1 ≤ d.1 ∧ d.1 ≤ 65535 ∧ 1 ≤ d.2 ∧ d.2 ≤ 4294967295)
def lessD (a b : Dot) : Bool := if a.2 = b.2 then decide (a.1 < b.1) else decide (a.2 < b.2)
theorem validD_iff {d : Dot} : validD d = true ↔ 1 ≤ d.1 ∧ d.1 ≤ 65535 ∧ 1 ≤ d.2 ∧ d.2 ≤ 4294967295 := by unfold validD; exact decide_eq_true_iff
theorem validD_not {d : Dot} : validD d = false ↔ ¬ (1 ≤ d.1 ∧ d.1 ≤ 65535 ∧ 1 ≤ d.2 ∧ d.2 ≤ 4294967295) := by unfold validD; exact decide_eq_false_iff_not
theorem lessD_iff {a b : Dot} : lessD a b = true ↔ a.2 < b.2 ∨ (a.2 = b.2 ∧ a.1 < b.1) := by unfold lessD; split <;> simp <;> omega
/-- -1, 0, 1: as numbers are. -/
def cmpI (a b : Int) : Int := if a < b then -1 else if b < a then 1 else 0
/-- The order of two dots: -1, 0, 1. -/
def cmpD (a b : Dot) : Int := if cmpI a.2 b.2 = 0 then cmpI a.1 b.1 else cmpI a.2 b.2
theorem cmpI_bd (a b : Int) : -1 ≤ cmpI a b ∧ cmpI a b ≤ 1 := by unfold cmpI; split <;> (try split) <;> omega
theorem cmpD_bd (a b : Dot) : -1 ≤ cmpD a b ∧ cmpD a b ≤ 1 := by unfold cmpD; split <;> exact cmpI_bd _ _
theorem cmpD_lt {a b : Dot} : cmpD a b < 0 ↔ lessD a b = true := by
  rw [lessD_iff]; unfold cmpD cmpI
  split <;> split <;> (try split) <;> omega
theorem cmpD_zero {a b : Dot} : cmpD a b = 0 ↔ a = b := by
  obtain ⟨a1, a2⟩ := a; obtain ⟨b1, b2⟩ := b
  simp only [Prod.mk.injEq]; unfold cmpD cmpI
  simp only []
  split <;> split <;> (try split) <;> (try split) <;> omega

theorem retB {w w' : World} {b b' : Bool} (e : b = b') (hb : Below w.heap.size w w') : Ret w (IsB b') (.returned (.bool b)) w' := ⟨_, rfl, hb, by rw [e]; rfl⟩
theorem retI {w w' : World} {b b' : Int} (e : b = b') (hb : Below w.heap.size w w') : Ret w (IsI b') (.returned (.int .i64 b)) w' := ⟨_, rfl, hb, by rw [e]; rfl⟩

theorem rvalid (x y : Int) (w : World) : Calls Tryz.prog 91 #[.agg #[.int .i64 x, .int .i64 y]] w (Ret w (IsB (validD (x, y)))) := by
  go_enter Tryz.func91, Tryz.ntmps91
  go_wp2
  all_goals
    go_ret
    exact retB (by rw [Bool.eq_iff_iff]; simp [validD]; try omega) (by go_grown)
theorem dvalid (x y : Int) (w : World) : Calls Tryz.prog 108 #[.agg #[.int .i64 x, .int .i64 y]] w (Ret w (IsB (validD (x, y)))) := by
  go_enter Tryz.func108, Tryz.ntmps108
  go_wp2
  all_goals
    go_ret
    exact retB (by rw [Bool.eq_iff_iff]; simp [validD]; try omega) (by go_grown)
theorem rless (a b x y : Int) (w : World) : Calls Tryz.prog 209 #[.agg #[.int .i64 a, .int .i64 b], .agg #[.int .i64 x, .int .i64 y]] w (Ret w (IsB (lessD (a, b) (x, y)))) := by
  by_cases h : b = y
  · subst h
    go_enter Tryz.func209, Tryz.ntmps209
    go_wp2
    go_ret
    exact retB (by simp [lessD]) (by go_grown)
  · have hne : (b != y) = true := by simpa using h
    go_enter Tryz.func209, Tryz.ntmps209
    go_wp2
    go_ret
    exact retB (by simp [lessD, h]) (by go_grown)
theorem ccompare (a b : Int) (w : World) : Calls Tryz.prog 197 #[.int .i64 a, .int .i64 b] w fun e w' => e = .returned (.int .i64 (cmpI a b)) ∧ w = w' := by
  go_enter Tryz.func197, Tryz.ntmps197
  go_wp2
  all_goals
    go_ret
    exact ⟨by rw [cmpI]; simp only [*]; simp <;> omega, rfl⟩
end Go.Proofs.YthoacbdoogpaiaaGreatDoor

/-
  Bytes as strings; bytes.Equal; are two calls the same.
-/
namespace Go.Proofs.YthoacbdoogpaiaaGreatDoor
open Go.RowKit

theorem strOf_eq (l : List UInt8) : strOfNums (l.map fun x => (x.toNat : Int)) = ⟨⟨l⟩⟩ := by
  unfold strOfNums
  congr 1
  simp only [List.map_map]
  congr 1
  conv => rhs; rw [← List.map_id l]
  apply List.map_congr_left
  intro x _
  simp
theorem conv_bytes {w : World} {A : Option Addr} {n c : Nat} {l : List UInt8} (h : Sl encB w A n c l) : (convert 22 9 (.slice A n c)).run Tryz.prog w = .ok (strV l) w := by
  cases A with
  | none =>
    have hc := h.nil rfl
    have hn : n = 0 := by have := h.cap; omega
    have hl : l = [] := List.eq_nil_of_length_eq_zero (by have := h.len; omega)
    subst hl
    exact run_convert_bytes_nil (P := Tryz.prog) w _ 5 Tryz.underlying22 Tryz.underlying5 n c _ Tryz.underlying9
  | some a =>
    have hl : (loadCells a n).run Tryz.prog w = .ok ((l.map fun x => (x.toNat : Int)).map (Value.int .u8)).toArray w := by
      have := run_loadCells_list (P := Tryz.prog) w a ((l.map fun x => (x.toNat : Int)).map (Value.int .u8)) (fun j v hj => by
        simp only [List.getElem?_map, Option.map_eq_some_iff] at hj
        obtain ⟨z, ⟨x, hx, rfl⟩, rfl⟩ := hj
        obtain ⟨b, o, e1, _, h1⟩ := h.cell j x hx
        cases e1
        have := h1 0 (.int .u8 x.toNat) rfl
        rw [add_lit]
        simpa [encB] using this)
      simpa [h.len] using this
    rw [run_convert_bytes_string w _ _ 5 _ n c Tryz.underlying22 Tryz.underlying5 Tryz.underlying9, run_bytesToString w a n c _ hl, foldl_push_bytes]
    have := strOf_eq l
    unfold strOfNums at this
    have e : (ByteArray.empty).data = #[] := rfl
    rw [e]
    simp only [Array.empty_append]
    exact congrArg (fun s => Result.ok (Value.string s) w) this
set_option maxHeartbeats 1000000 in
theorem bequal (A B : Option Addr) (n c m d : Nat) (a b : List UInt8) (w : World) (ha : Sl encB w A n c a) (hb : Sl encB w B m d b) :
    Calls Tryz.prog 74 #[.slice A n c, .slice B m d] w (Ret w (IsB (a == b))) := by
  have c1 := conv_bytes ha
  have c2 := conv_bytes hb
  clear ha hb
  go_enter Tryz.func74, Tryz.ntmps74
  go_wp2
  go_ret
  exact retB rfl (Below.refl _ _)

structure CallS where
  op : Int
  key : List UInt8
  other : List UInt8
  item : List UInt8
  qty : Int
  data : List UInt8
  deriving DecidableEq
def callV (c : CallS) (A : Option Addr) (n m : Nat) : Value := .agg #[.int .i64 c.op, strV c.key, strV c.other, strV c.item, .int .i64 c.qty, .slice A n m]
def callEq (a b : CallS) : Bool := a.op == b.op && a.key == b.key && a.other == b.other && a.item == b.item && a.qty == b.qty && a.data == b.data

set_option maxRecDepth 100000 in
set_option maxHeartbeats 4000000 in
theorem rsameCall (a b : CallS) (A B : Option Addr) (n c m d : Nat) (w : World) (ha : Sl encB w A n c a.data) (hb : Sl encB w B m d b.data) :
    Calls Tryz.prog 40 #[callV a A n c, callV b B m d] w (Ret w (IsB (callEq a b))) := by
  obtain ⟨o1, k1, h1, i1, q1, l1⟩ := a
  obtain ⟨o2, k2, h2, i2, q2, l2⟩ := b
  unfold callV callEq
  simp only at ha hb ⊢
  have C1 := Lib.hid (fun (w1 : World) (hb1 : Below w.heap.size w w1) => conv_bytes (ha.mono hb1))
  have C2 := Lib.hid (fun (w1 : World) (hb1 : Below w.heap.size w w1) => conv_bytes (hb.mono hb1))
  clear ha hb
  go_enter Tryz.func40, Tryz.ntmps40
  go_wp2
  · rw [C1.out _ (by go_grown)]
    go_wp2
    rw [C2.out _ (by go_grown)]
    go_wp2
    go_ret
    exact retB (by clear C1 C2; simp_all) (by go_grown)
  all_goals go_ret
  all_goals exact retB (by clear C1 C2; simp_all) (by go_grown)

set_option maxRecDepth 100000 in
set_option maxHeartbeats 4000000 in
theorem csameCall (a b : CallS) (A B : Option Addr) (n c m d : Nat) (w : World) (ha : Sl encB w A n c a.data) (hb : Sl encB w B m d b.data) :
    Calls Tryz.prog 39 #[callV a A n c, callV b B m d] w (Ret w (IsB (callEq a b))) := by
  obtain ⟨o1, k1, h1, i1, q1, l1⟩ := a
  obtain ⟨o2, k2, h2, i2, q2, l2⟩ := b
  unfold callV callEq
  simp only at ha hb ⊢
  have C1 := Lib.hid (fun (w1 : World) (hb1 : Below w.heap.size w w1) => bequal A B n c m d l1 l2 w1 (ha.mono hb1) (hb.mono hb1))
  clear ha hb
  go_enter Tryz.func39, Tryz.ntmps39
  go_wp2_with (go_at_call 74; ((with_reducible refine (C1.out _ (by go_grown)).mono ?_); rintro e w1 ⟨_, rfl, hb1, rfl⟩))
  all_goals go_ret
  · rename_i g1 g2 g3 g4 g5
    exact retB (by simp [g1, g2, g3, g4, g5]) (Below.le (by go_grown) hb1)
  all_goals exact retB (by clear C1; simp_all) (by go_grown)
end Go.Proofs.YthoacbdoogpaiaaGreatDoor

/-
  Are two operations equal: in the code and in the reference.
-/
namespace Go.Proofs.YthoacbdoogpaiaaGreatDoor
open Go.RowKit

structure OpS where
  kind : Int
  n : Int
  call : CallS
  deriving DecidableEq
def opV (o : OpS) (A : Option Addr) (n m : Nat) : Value := .agg #[.int .i64 o.kind, .int .i64 o.n, .int .i64 o.call.op, strV o.call.key, strV o.call.other, strV o.call.item, .int .i64 o.call.qty, .slice A n m]
def opEq (a b : OpS) : Bool := a.kind == b.kind && a.n == b.n && callEq a.call b.call

set_option maxRecDepth 100000 in
set_option maxHeartbeats 4000000 in
theorem req (a b : OpS) (A B : Option Addr) (n c m d : Nat) (w : World) (ha : Sl encB w A n c a.call.data) (hb : Sl encB w B m d b.call.data) :
    Calls Tryz.prog 19 #[opV a A n c, opV b B m d] w (Ret w (IsB (opEq a b))) := by
  obtain ⟨kd1, n1, c1⟩ := a
  obtain ⟨kd2, n2, c2⟩ := b
  have C1 := fun (w1 : World) (hb1 : Below w.heap.size w w1) => rsameCall c1 c2 A B n c m d w1 (ha.mono hb1) (hb.mono hb1)
  unfold opV opEq
  unfold callV at C1
  simp only at ha hb ⊢
  clear ha hb
  generalize callEq c1 c2 = r at *
  obtain ⟨o1, k1, h1, i1, q1, l1⟩ := c1
  obtain ⟨o2, k2, h2, i2, q2, l2⟩ := c2
  simp only at C1 ⊢
  have C1 := Lib.hid C1
  go_enter Tryz.func19, Tryz.ntmps19
  go_wp2_with (go_at_call 40; ((with_reducible refine (C1.out _ (by go_grown)).mono ?_); rintro e w1 ⟨_, rfl, hb1, rfl⟩))
  all_goals go_ret
  · rename_i g1 g2
    exact retB (by simp [g1, g2]) (Below.le (by go_grown) hb1)
  all_goals exact retB (by clear C1; simp_all) (by go_grown)
set_option maxRecDepth 100000 in
set_option maxHeartbeats 4000000 in
theorem ceq30 (a b : OpS) (A B : Option Addr) (n c m d : Nat) (w : World) (ha : Sl encB w A n c a.call.data) (hb : Sl encB w B m d b.call.data) :
    Calls Tryz.prog 18 #[opV a A n c, opV b B m d] w (Ret w (IsB (opEq a b))) := by
  obtain ⟨kd1, n1, c1⟩ := a
  obtain ⟨kd2, n2, c2⟩ := b
  have C1 := fun (w1 : World) (hb1 : Below w.heap.size w w1) => csameCall c1 c2 A B n c m d w1 (ha.mono hb1) (hb.mono hb1)
  unfold opV opEq
  unfold callV at C1
  simp only at ha hb ⊢
  clear ha hb
  generalize callEq c1 c2 = r at *
  obtain ⟨o1, k1, h1, i1, q1, l1⟩ := c1
  obtain ⟨o2, k2, h2, i2, q2, l2⟩ := c2
  simp only at C1 ⊢
  have C1 := Lib.hid C1
  go_enter Tryz.func18, Tryz.ntmps18
  go_wp2_with (go_at_call 39; ((with_reducible refine (C1.out _ (by go_grown)).mono ?_); rintro e w1 ⟨_, rfl, hb1, rfl⟩))
  all_goals go_ret
  · rename_i g1 g2
    exact retB (by simp [g1, g2]) (Below.le (by go_grown) hb1)
  all_goals exact retB (by clear C1; simp_all) (by go_grown)
end Go.Proofs.YthoacbdoogpaiaaGreatDoor

/-
  Are two lists the same: numbers, lines.
-/
namespace Go.Proofs.YthoacbdoogpaiaaGreatDoor
open Go.RowKit

def encI : Enc Int := ⟨1, fun x => [.int .i64 x], fun _ => rfl, fun x u hu => by rw [List.mem_singleton.1 hu]; rfl⟩
abbrev Line := List UInt8 × Int
def encL : Enc Line := ⟨2, fun x => [strV x.1, .int .i64 x.2], fun _ => rfl, fun x u hu => by
  rcases List.mem_cons.1 hu with rfl | hu
  · rfl
  · rw [List.mem_singleton.1 hu]; rfl⟩
theorem Sl.int {w : World} {A : Option Addr} {n c : Nat} {l : List Int} (h : Sl encI w A n c l) {i : Nat} (hi : i < n) : ∃ b o x, A = some ⟨b, o, none⟩ ∧ b < w.heap.size ∧ l[i]? = some x ∧ l.drop i = x :: l.drop (i + 1) ∧ w.cell? ⟨b, o + i, none⟩ = some (.int .i64 x) := by
  obtain ⟨b, o, x, h1, h2, h3, h4, h5⟩ := h.at_ hi
  refine ⟨b, o, x, h1, h2, h3, h4, ?_⟩
  have := h5 0 _ rfl
  simpa [encI] using this
theorem Sl.line {w : World} {A : Option Addr} {n c : Nat} {l : List Line} (h : Sl encL w A n c l) {i : Nat} (hi : i < n) : ∃ b o x y, A = some ⟨b, o, none⟩ ∧ b < w.heap.size ∧ l[i]? = some (x, y) ∧ l.drop i = (x, y) :: l.drop (i + 1) ∧ w.cell? ⟨b, o + i * 2, none⟩ = some (strV x) ∧ w.cell? ⟨b, o + i * 2 + 1, none⟩ = some (.int .i64 y) := by
  obtain ⟨b, o, ⟨x, y⟩, h1, h2, h3, h4, h5⟩ := h.at_ hi
  refine ⟨b, o, x, y, h1, h2, h3, h4, ?_, ?_⟩
  · have := h5 0 _ rfl
    simpa [encL] using this
  · have := h5 1 _ rfl
    simpa [encL] using this

def ListRel {α : Type} [DecidableEq α] (w : World) (n : Nat) (la lb : List α) (i : Value) (wr : World) : Prop :=
  ∃ k : Nat, i = .int .i64 k ∧ k ≤ n ∧ Below w.heap.size w wr ∧ decide (la = lb) = decide (la.drop k = lb.drop k)
section
variable {α : Type} [DecidableEq α]
theorem ListRel.next {w w1 : World} {n k : Nat} {la lb : List α} {a b : α} (hb1 : Below w.heap.size w w1) (hk : k < n) (h1 : la.drop k = a :: la.drop (k + 1)) (h2 : lb.drop k = b :: lb.drop (k + 1))
    (hs : decide (la = lb) = decide (la.drop k = lb.drop k)) (hl : a = b) : ListRel w n la lb (.int .i64 ((k : Int) + 1)) w1 :=
  ⟨k + 1, by simp, hk, hb1, by rw [hs, h1, h2, hl]; simp⟩
theorem list_no {k : Nat} {la lb : List α} {a b : α} (h1 : la.drop k = a :: la.drop (k + 1)) (h2 : lb.drop k = b :: lb.drop (k + 1))
    (hs : decide (la = lb) = decide (la.drop k = lb.drop k)) (hl : a ≠ b) : decide (la = lb) = false := by
  rw [hs, h1, h2]; simp [hl]
theorem list_yes {n k : Nat} {la lb : List α} (hs : decide (la = lb) = decide (la.drop k = lb.drop k)) (h1 : n = la.length) (h2 : n = lb.length) (hk : ¬ k < n) : decide (la = lb) = true := by
  rw [hs, List.drop_of_length_le (by omega), List.drop_of_length_le (by omega)]; simp
theorem list_len {n m : Nat} {la lb : List α} (h1 : n = la.length) (h2 : m = lb.length) (h : n ≠ m) : decide (la = lb) = false := by
  rw [decide_eq_false_iff_not]; rintro rfl; exact h (h1.trans h2.symm)
end

set_option maxRecDepth 100000 in
set_option maxHeartbeats 2000000 in
theorem eqInts (A B : Option Addr) (n m ca cb : Nat) (la lb : List Int) (w : World) (ha : Sl encI w A n ca la) (hb : Sl encI w B m cb lb) :
    Calls Tryz.prog 41 #[.slice A n ca, .slice B m cb] w (Ret w (IsB (decide (la = lb)))) := by
  by_cases hnm : n = m
  · subst hnm
    have hn := ha.big
    have hne : ((n : Int) != (n : Int)) = false := by simp
    go_enter Tryz.func41, Tryz.ntmps41
    go_wp2
    go_loopw [13] (fun i wr => ListRel w n la lb i wr) (fun i _ => n - (intOf i).toNat)
    case atStart => exact ⟨0, rfl, by omega, Below.refl _ _, rfl⟩
    case round =>
      obtain ⟨k, rfl, hk, hbw, hs⟩ := hrel
      by_cases hlt : k < n
      · obtain ⟨b, o, x, rfl, -, -, d1, c1⟩ := (ha.mono hbw).int (i := k) hlt
        obtain ⟨b', o', u, rfl, -, -, d2, c2⟩ := (hb.mono hbw).int (i := k) hlt
        have D1 := Lib.hid d1; have D2 := Lib.hid d2; have HS := Lib.hid hs
        clear d1 d2 hs
        by_cases hl : x = u
        · have HL := Lib.hid hl
          have hl' : (x != u) = false := by simp [hl]
          clear hl
          go_wp2
          go_quiet (fail)
          go_wp2
          go_roundw
          case rel => exact ListRel.next (hbw.drewN' _) hlt D1.out D2.out HS.out HL.out
          case measure => simp [intOf]; omega
        · have HL := Lib.hid hl
          have hl' : (x != u) = true := by simp [hl]
          clear hl
          go_wp2
          go_quiet (fail)
          go_wp2
          go_ret
          exact retB (list_no D1.out D2.out HS.out HL.out).symm (hbw.drewN' _)
      · have HS := Lib.hid (list_yes hs ha.len hb.len hlt); clear hs
        go_wp2
        go_ret
        exact retB HS.out.symm hbw
  · have hne : ((n : Int) != (m : Int)) = true := by simp; omega
    have HL := Lib.hid (list_len ha.len hb.len hnm)
    clear ha hb
    go_enter Tryz.func41, Tryz.ntmps41
    go_wp2
    go_ret
    exact retB HL.out.symm (Below.refl _ _)
set_option maxRecDepth 100000 in
set_option maxHeartbeats 2000000 in
theorem rInts (A B : Option Addr) (n m ca cb : Nat) (la lb : List Int) (w : World) (ha : Sl encI w A n ca la) (hb : Sl encI w B m cb lb) :
    Calls Tryz.prog 43 #[.slice A n ca, .slice B m cb] w (Ret w (IsB (decide (la = lb)))) := by
  by_cases hnm : n = m
  · subst hnm
    have hn := ha.big
    have hne : ((n : Int) != (n : Int)) = false := by simp
    go_enter Tryz.func43, Tryz.ntmps43
    go_wp2
    go_loopw [5] (fun i wr => ListRel w n la lb i wr) (fun i _ => n - (intOf i).toNat)
    case atStart => exact ⟨0, rfl, by omega, Below.refl _ _, rfl⟩
    case round =>
      obtain ⟨k, rfl, hk, hbw, hs⟩ := hrel
      by_cases hlt : k < n
      · obtain ⟨b, o, x, rfl, -, -, d1, c1⟩ := (ha.mono hbw).int (i := k) hlt
        obtain ⟨b', o', u, rfl, -, -, d2, c2⟩ := (hb.mono hbw).int (i := k) hlt
        have D1 := Lib.hid d1; have D2 := Lib.hid d2; have HS := Lib.hid hs
        clear d1 d2 hs
        by_cases hl : x = u
        · have HL := Lib.hid hl
          have hl' : (x != u) = false := by simp [hl]
          clear hl
          go_wp2
          go_quiet (fail)
          go_wp2
          go_roundw
          case rel => exact ListRel.next (hbw.drewN' _) hlt D1.out D2.out HS.out HL.out
          case measure => simp [intOf]; omega
        · have HL := Lib.hid hl
          have hl' : (x != u) = true := by simp [hl]
          clear hl
          go_wp2
          go_quiet (fail)
          go_wp2
          go_ret
          exact retB (list_no D1.out D2.out HS.out HL.out).symm (hbw.drewN' _)
      · have HS := Lib.hid (list_yes hs ha.len hb.len hlt); clear hs
        go_wp2
        go_ret
        exact retB HS.out.symm hbw
  · have hne : ((n : Int) != (m : Int)) = true := by simp; omega
    have HL := Lib.hid (list_len ha.len hb.len hnm)
    clear ha hb
    go_enter Tryz.func43, Tryz.ntmps43
    go_wp2
    go_ret
    exact retB HL.out.symm (Below.refl _ _)
end Go.Proofs.YthoacbdoogpaiaaGreatDoor

/-
  Are two lists of lines, of batches the same.
-/
namespace Go.Proofs.YthoacbdoogpaiaaGreatDoor
open Go.RowKit

def leq (a b : Line) : Bool := a == b
theorem leq_iff {a b : Line} : leq a b = true ↔ a = b := by unfold leq; exact beq_iff_eq
theorem leq_not {a b : Line} : leq a b = false ↔ a ≠ b := by unfold leq; exact beq_eq_false_iff_ne
theorem run_neq_line (x u : List UInt8) (y v : Int) (w : World) : (binOp .neq 140 (.agg #[strV x, .int .i64 y]) (.agg #[strV u, .int .i64 v])).run Tryz.prog w = .ok (.bool (!leq (x, y) (u, v))) w := by
  have e : leq (x, y) (u, v) = (decide (x = u) && decide (y = v)) := by unfold leq; rw [Bool.eq_iff_iff]; simp
  rw [e]
  by_cases h1 : x = u
  · by_cases h2 : y = v
    · simp [go_sem, h1, h2]
    · simp [go_sem, h1, h2]
  · simp [go_sem, h1]
attribute [go_sem ↓] run_neq_line
set_option maxRecDepth 100000 in
set_option maxHeartbeats 2000000 in
theorem eqLines (A B : Option Addr) (n m ca cb : Nat) (la lb : List Line) (w : World) (ha : Sl encL w A n ca la) (hb : Sl encL w B m cb lb) :
    Calls Tryz.prog 75 #[.slice A n ca, .slice B m cb] w (Ret w (IsB (decide (la = lb)))) := by
  by_cases hnm : n = m
  · subst hnm
    have hn := ha.big
    have hne : ((n : Int) != (n : Int)) = false := by simp
    go_enter Tryz.func75, Tryz.ntmps75
    go_wp2
    go_loopw [13] (fun i wr => ListRel w n la lb i wr) (fun i _ => n - (intOf i).toNat)
    case atStart => exact ⟨0, rfl, by omega, Below.refl _ _, rfl⟩
    case round =>
      obtain ⟨k, rfl, hk, hbw, hs⟩ := hrel
      by_cases hlt : k < n
      · obtain ⟨b, o, x, y, rfl, -, -, d1, c1, c2⟩ := (ha.mono hbw).line (i := k) hlt
        obtain ⟨b', o', u, v, rfl, -, -, d2, c3, c4⟩ := (hb.mono hbw).line (i := k) hlt
        have D1 := Lib.hid d1; have D2 := Lib.hid d2; have HS := Lib.hid hs
        clear d1 d2 hs
        cases hl : leq (x, y) (u, v) with
        | true =>
          have HL := Lib.hid hl
          go_wp2
          go_quiet (fail)
          go_wp2
          go_roundw
          case rel => exact ListRel.next (hbw.drewN' _) hlt D1.out D2.out HS.out (leq_iff.1 HL.out)
          case measure => simp [intOf]; omega
        | false =>
          have HL := Lib.hid hl
          go_wp2
          go_quiet (fail)
          go_wp2
          go_ret
          exact retB (list_no D1.out D2.out HS.out (leq_not.1 HL.out)).symm (hbw.drewN' _)
      · have HS := Lib.hid (list_yes hs ha.len hb.len hlt); clear hs
        go_wp2
        go_ret
        exact retB HS.out.symm hbw
  · have hne : ((n : Int) != (m : Int)) = true := by simp; omega
    have HL := Lib.hid (list_len ha.len hb.len hnm)
    clear ha hb
    go_enter Tryz.func75, Tryz.ntmps75
    go_wp2
    go_ret
    exact retB HL.out.symm (Below.refl _ _)
end Go.Proofs.YthoacbdoogpaiaaGreatDoor

/-
  Lists of batches: are two the same.
-/
namespace Go.Proofs.YthoacbdoogpaiaaGreatDoor
open Go.RowKit

/-- A slice of slices of bytes. -/
structure BSl (w : World) (A : Option Addr) (n c : Nat) (ls : List (List UInt8)) : Prop where
  len : n = ls.length
  cap : n ≤ c
  max : c ≤ maxLen
  nil : A = none → c = 0
  cell : ∀ i l, ls[i]? = some l → ∃ b o A' n' c', A = some ⟨b, o, none⟩ ∧ b < w.heap.size ∧ w.cell? ⟨b, o + i, none⟩ = some (.slice A' n' c') ∧ Sl encB w A' n' c' l
section
variable {w w' : World} {A : Option Addr} {n c : Nat} {ls : List (List UInt8)}
theorem BSl.mono (h : BSl w A n c ls) (hb : Below w.heap.size w w') : BSl w' A n c ls :=
  ⟨h.len, h.cap, h.max, h.nil, fun i l hi => by
    obtain ⟨b, o, A', n', c', rfl, hlt, h1, h2⟩ := h.cell i l hi
    exact ⟨b, o, A', n', c', rfl, Nat.lt_of_lt_of_le hlt hb.size, cellKeep hb h1, h2.mono hb⟩⟩
theorem BSl.big (h : BSl w A n c ls) : n ≤ 9223372036854775807 := by have := h.cap; have := h.max; unfold maxLen at this; omega
theorem BSl.at_ (h : BSl w A n c ls) {i : Nat} (hi : i < n) : ∃ b o A' n' c' l, A = some ⟨b, o, none⟩ ∧ b < w.heap.size ∧ ls[i]? = some l ∧ ls.drop i = l :: ls.drop (i + 1) ∧ w.cell? ⟨b, o + i, none⟩ = some (.slice A' n' c') ∧ Sl encB w A' n' c' l := by
  have hl : i < ls.length := by have := h.len; omega
  obtain ⟨b, o, A', n', c', e1, hb, h1, h2⟩ := h.cell i ls[i] (List.getElem?_eq_getElem hl)
  exact ⟨b, o, A', n', c', ls[i], e1, hb, List.getElem?_eq_getElem hl, by rw [List.drop_eq_getElem_cons hl], h1, h2⟩
end
set_option maxRecDepth 100000 in
set_option maxHeartbeats 2000000 in
theorem eqBatches (A B : Option Addr) (n m ca cb : Nat) (la lb : List (List UInt8)) (w : World) (ha : BSl w A n ca la) (hb : BSl w B m cb lb) :
    Calls Tryz.prog 76 #[.slice A n ca, .slice B m cb, .func (.func 74) #[] #[]] w (Ret w (IsB (decide (la = lb)))) := by
  by_cases hnm : n = m
  · subst hnm
    have hn := ha.big
    have hne : ((n : Int) != (n : Int)) = false := by simp
    go_enter Tryz.func76, Tryz.ntmps76
    go_wp2
    go_loopw [17] (fun i wr => ListRel w n la lb i wr) (fun i _ => n - (intOf i).toNat)
    case atStart => exact ⟨0, rfl, by omega, Below.refl _ _, rfl⟩
    case round =>
      obtain ⟨k, rfl, hk, hbw, hs⟩ := hrel
      by_cases hlt : k < n
      · obtain ⟨b, o, A1, n1, c1, x, rfl, -, -, d1, e1, s1⟩ := (ha.mono hbw).at_ (i := k) hlt
        obtain ⟨b', o', A2, n2, c2, u, rfl, -, -, d2, e2, s2⟩ := (hb.mono hbw).at_ (i := k) hlt
        have D1 := Lib.hid d1; have D2 := Lib.hid d2; have HS := Lib.hid hs
        have C := bequal A1 A2 n1 c1 n2 c2 x u wr s1 s2
        clear d1 d2 hs s1 s2
        cases hl : x == u with
        | true =>
          rw [hl] at C
          have C := Lib.hid C
          have HL := Lib.hid hl; clear hl
          go_wp2_with fail
          refine C.out.mono ?_
          rintro e w1 ⟨_, rfl, hb1, rfl⟩
          go_wp2
          go_roundw
          case rel => exact ListRel.next (hbw.le hb1) hlt D1.out D2.out HS.out (beq_iff_eq.1 HL.out)
          case measure => simp [intOf]; omega
        | false =>
          rw [hl] at C
          have C := Lib.hid C
          have HL := Lib.hid hl; clear hl
          go_wp2_with fail
          refine C.out.mono ?_
          rintro e w1 ⟨_, rfl, hb1, rfl⟩
          go_wp2
          go_ret
          exact retB (list_no D1.out D2.out HS.out (beq_eq_false_iff_ne.1 HL.out)).symm (hbw.le hb1)
      · have HS := Lib.hid (list_yes hs ha.len hb.len hlt); clear hs
        go_wp2
        go_ret
        exact retB HS.out.symm hbw
  · have hne : ((n : Int) != (m : Int)) = true := by simp; omega
    have HL := Lib.hid (list_len ha.len hb.len hnm)
    clear ha hb
    go_enter Tryz.func76, Tryz.ntmps76
    go_wp2
    go_ret
    exact retB HL.out.symm (Below.refl _ _)
end Go.Proofs.YthoacbdoogpaiaaGreatDoor

/-
  Are two answers the same: in the code.
-/
namespace Go.Proofs.YthoacbdoogpaiaaGreatDoor
open Go.RowKit

structure AnsS where
  op : Int
  err : Int
  count : Int
  lines : List Line
  batches : List (List UInt8)
  deriving DecidableEq
def ansV (a : AnsS) (A : Option Addr) (n c : Nat) (B : Option Addr) (m d : Nat) : Value := .agg #[.int .i64 a.op, .int .i64 a.err, .int .i64 a.count, .slice A n c, .slice B m d]
def ansEq (a b : AnsS) : Bool := a.op == b.op && a.err == b.err && a.count == b.count && decide (a.lines = b.lines) && decide (a.batches = b.batches)

set_option maxRecDepth 100000 in
set_option maxHeartbeats 4000000 in
theorem csameAnswer (a b : AnsS) (A B A' B' : Option Addr) (n c m d n' c' m' d' : Nat) (w : World) (h1 : Sl encL w A n c a.lines) (h2 : BSl w B m d a.batches) (h3 : Sl encL w A' n' c' b.lines) (h4 : BSl w B' m' d' b.batches) :
    Calls Tryz.prog 42 #[ansV a A n c B m d, ansV b A' n' c' B' m' d'] w (Ret w (IsB (ansEq a b))) := by
  obtain ⟨o1, e1, k1, l1, b1⟩ := a
  obtain ⟨o2, e2, k2, l2, b2⟩ := b
  simp only at h1 h2 h3 h4
  have C1 := fun (w1 : World) (hb1 : Below w.heap.size w w1) => eqLines A A' n n' c c' l1 l2 w1 (h1.mono hb1) (h3.mono hb1)
  have C2 := fun (w1 : World) (hb1 : Below w.heap.size w w1) => eqBatches B B' m m' d d' b1 b2 w1 (h2.mono hb1) (h4.mono hb1)
  unfold ansV ansEq
  simp only
  clear h1 h2 h3 h4
  generalize decide (l1 = l2) = r1 at *
  generalize decide (b1 = b2) = r2 at *
  have D1 := Lib.hid C1; have D2 := Lib.hid C2
  clear C1 C2
  go_enter Tryz.func42, Tryz.ntmps42
  go_wp2_with (first | (go_at_call 75; ((with_reducible refine (D1.out _ (by go_grown)).mono ?_); rintro e w1 ⟨_, rfl, hb1, rfl⟩; have x1 := (bcell hb1).1 w.heap.size 4 (by simp; omega); have x2 := (bcell hb1).1 (w.heap.size + 1) 4 (by simp); simp [go_sem] at x1 x2)) | (go_at_call 76; ((with_reducible refine (D2.out _ (Below.le (by go_grown) hb1)).mono ?_); rintro e w2 ⟨_, rfl, hb2, rfl⟩)))
  all_goals go_ret
  · exact retB (by clear D1 D2; simp_all) ((Below.le (by go_grown) hb1).le hb2)
  · exact retB (by clear D1 D2; simp_all) (Below.le (by go_grown) hb1)
  all_goals exact retB (by clear D1 D2; simp_all) (by go_grown)
end Go.Proofs.YthoacbdoogpaiaaGreatDoor

/-
  Are two answers the same: in the reference.
-/
namespace Go.Proofs.YthoacbdoogpaiaaGreatDoor
open Go.RowKit

section
variable {P : Program} {ops : List Oper} {Fs : List VT} {w0 : World} {a0 : Act} {i : Nat} {d : Option Tmp} {ty : TypeId} {pos : String} {after : Array Edge} {g : Option (Nat × Bool)}
theorem Ob.convB {x : Operand} {p r : Value} {t t' : TypeId} (hw : Wanted ops Fs w0 a0 i ⟨d, .convert t t' x, ty, pos, after, g⟩) (hx : Has ops Fs w0 a0 i ⟨d, .convert t t' x, ty, pos, after, g⟩ x (Is p))
    (h : ∀ w, Below w0.heap.size w0 w → (Go.convert t t' p).run P w = .ok r w) : Ob P ops Fs w0 a0 i ⟨d, .convert t t' x, ty, pos, after, g⟩ (Is r) :=
  Ob.stay hw fun a w cx => ⟨r, by
    have h1 : a.eval x = p := hx a w cx
    have h2 := h w cx.le
    generalize a.eval = ρ at h1
    simp [execOp, h1, h2], rfl⟩
end
theorem field_ans4 {b : Nat} {w : World} : (Instr.fieldAt 52 (.pointer (some ⟨b, 0, none⟩)) 4).run Tryz.prog w = .ok (.pointer (some ⟨b, 4, none⟩)) w := by simp [go_sem]
theorem load_bb {A : Option Addr} {n c b o : Nat} {w0 w : World} (hb : Below w0.heap.size w0 w) (h1 : w0.cell? ⟨b, o, none⟩ = some (.slice A n c)) : (Instr.loadAt 50 (.pointer (some ⟨b, o, none⟩))).run Tryz.prog w = .ok (.slice A n c) w := by
  have c1 := cellKeep hb h1
  simp [go_sem, c1]
theorem load_b {A : Option Addr} {n c b o : Nat} {w0 w : World} (hb : Below w0.heap.size w0 w) (h1 : w0.cell? ⟨b, o, none⟩ = some (.slice A n c)) : (Instr.loadAt 22 (.pointer (some ⟨b, o, none⟩))).run Tryz.prog w = .ok (.slice A n c) w := by
  have c1 := cellKeep hb h1
  simp [go_sem, c1]
theorem index_bb {w : World} {b o n c k : Nat} (hk : k < n) : (Instr.indexAt 50 (.slice (some ⟨b, o, none⟩) n c) (.int .i64 (k : Int))).run Tryz.prog w = .ok (.pointer (some ⟨b, o + k, none⟩)) w := by
  have h1 : (0 : Int) ≤ (k : Int) := by omega
  have h2 : (k : Int) < (n : Int) := by omega
  simp [go_sem, h1, h2]
theorem str_neq {x y : Operand} (a b : List UInt8) {r : Bool} (h : (a != b) = r) (w : World) : (eqGuard .neq 9 x y (strV a) (strV b)).run Tryz.prog w = .ok () w ∧ (Go.binOp .neq 9 (strV a) (strV b)).run Tryz.prog w = .ok (.bool r) w := by
  subst h
  constructor
  · simp [go_sem]
  · simp [go_sem, bne]
set_option maxRecDepth 100000 in
set_option maxHeartbeats 8000000 in
theorem rsameAnswer (a b : AnsS) (A B A' B' : Option Addr) (n c m d n' c' m' d' : Nat) (w : World) (h1 : Sl encL w A n c a.lines) (h2 : BSl w B m d a.batches) (h3 : Sl encL w A' n' c' b.lines) (h4 : BSl w B' m' d' b.batches) :
    Calls Tryz.prog 44 #[ansV a A n c B m d, ansV b A' n' c' B' m' d'] w (Ret w (IsB (ansEq a b))) := by
  obtain ⟨o1, e1, k1, l1, b1⟩ := a
  obtain ⟨o2, e2, k2, l2, b2⟩ := b
  simp only at h1 h2 h3 h4
  have LL : n ≠ n' → decide (l1 = l2) = false := fun h => list_len h1.len h3.len h
  have LB : m ≠ m' → decide (b1 = b2) = false := fun h => list_len h2.len h4.len h
  unfold ansV ansEq
  simp only
  by_cases hall : o1 = o2 ∧ e1 = e2 ∧ k1 = k2 ∧ n = n' ∧ m = m'
  · obtain ⟨rfl, rfl, rfl, rfl, rfl⟩ := hall
    clear LL LB
    have hn := h1.big; have hm := h2.big
    have hne : ((n : Int) != (n : Int)) = false := by simp
    have hnm : ((m : Int) != (m : Int)) = false := by simp
    have hb0 : Below w.heap.size w ((w.alloc (.cells #[.int .i64 o1, .int .i64 e1, .int .i64 k1, .slice A n c, .slice B m d] 52)).alloc (.cells #[.int .i64 o1, .int .i64 e1, .int .i64 k1, .slice A' n c', .slice B' m d'] 52)) := by go_grown
    have H1 := Lib.hid (h1.mono hb0); have H2 := Lib.hid (h2.mono hb0); have H3 := Lib.hid (h3.mono hb0); have H4 := Lib.hid (h4.mono hb0); have HB0 := Lib.hid hb0
    clear h1 h2 h3 h4 hb0
    go_enter Tryz.func44, Tryz.ntmps44
    go_wp2
    generalize hg : ((w.alloc (.cells #[.int .i64 o1, .int .i64 e1, .int .i64 k1, .slice A n c, .slice B m d] 52)).alloc (.cells #[.int .i64 o1, .int .i64 e1, .int .i64 k1, .slice A' n c', .slice B' m d'] 52)) = W at *
    have x1 : W.cell? ⟨w.heap.size, 3, none⟩ = some (.slice A n c) := by rw [← hg]; simp [go_sem]
    have x2 : W.cell? ⟨w.heap.size + 1, 3, none⟩ = some (.slice A' n c') := by rw [← hg]; simp [go_sem]
    have x3 : W.cell? ⟨w.heap.size, 4, none⟩ = some (.slice B m d) := by rw [← hg]; simp [go_sem]
    have x4 : W.cell? ⟨w.heap.size + 1, 4, none⟩ = some (.slice B' m d') := by rw [← hg]; simp [go_sem]
    have X1 := Lib.hid x1; have X2 := Lib.hid x2; have X3 := Lib.hid x3; have X4 := Lib.hid x4
    clear x1 x2 x3 x4 hg
    go_loopw [5] (fun i wr => ListRel W n l1 l2 i wr) (fun i _ => n - (intOf i).toNat)
    case atStart => exact ⟨0, rfl, by omega, Below.refl _ _, rfl⟩
    case round =>
      obtain ⟨k, rfl, hk, hbw, hs⟩ := hrel
      have y1 := cellKeep hbw X1.out; have y2 := cellKeep hbw X2.out
      by_cases hlt : k < n
      · obtain ⟨b, o, x, y, rfl, -, -, d1, c1, c2⟩ := (H1.out.mono hbw).line (i := k) hlt
        obtain ⟨b', o', u, v, rfl, -, -, d2, c3, c4⟩ := (H3.out.mono hbw).line (i := k) hlt
        have D1 := Lib.hid d1; have D2 := Lib.hid d2; have HS := Lib.hid hs
        clear d1 d2 hs
        cases hl : leq (x, y) (u, v) with
        | true =>
          have HL := Lib.hid hl
          go_wp2
          go_quiet (fail)
          go_wp2
          go_roundw
          case rel => exact ListRel.next (hbw.drewN' _) hlt D1.out D2.out HS.out (leq_iff.1 HL.out)
          case measure => simp [intOf]; omega
        | false =>
          have HL := Lib.hid hl
          go_wp2
          go_quiet (fail)
          go_wp2
          go_ret
          exact retB (by rw [list_no D1.out D2.out HS.out (leq_not.1 HL.out)]; simp) (HB0.out.le (hbw.drewN' _))
      · have HS := Lib.hid (list_yes hs H1.out.len H3.out.len hlt); clear hs
        have HBW := Lib.hid hbw; clear hbw y2
        go_wp2
        go_loopw [6] (fun i wr1 => ListRel W m b1 b2 i wr1) (fun i _ => m - (intOf i).toNat)
        case atStart => exact ⟨0, rfl, by omega, HBW.out, rfl⟩
        case round =>
          clear HBW y1
          obtain ⟨r, rfl, hr, hbr, ht⟩ := hrel
          have y3 := cellKeep hbr X3.out; have y4 := cellKeep hbr X4.out
          by_cases hlr : r < m
          · obtain ⟨b, o, A1, n1, c1, x, rfl, -, -, d1, e1, s1⟩ := (H2.out.mono hbr).at_ (i := r) hlr
            obtain ⟨b', o', A2, n2, c2, u, rfl, -, -, d2, e2, s2⟩ := (H4.out.mono hbr).at_ (i := r) hlr
            have D1 := Lib.hid d1; have D2 := Lib.hid d2; have HT := Lib.hid ht
            have S1 := Lib.hid s1; have S2 := Lib.hid s2
            clear d1 d2 ht s1 s2
            by_cases hl : x = u
            · have HL := Lib.hid hl
              have hl' : (x != u) = false := by simp [hl]
              clear hl
              go_wp2_with fail
              refine wp_region_M mixed (by kernel_rfl) ?_
              refine MDerR.step (Ob.fieldV Wanted.free Has.oldIs (fun w1 => field_ans4)) ?_
              refine MDerR.step (Ob.loadV Wanted.free (Has.new 0 0) (fun w1 hb1 => load_bb hb1 y3)) ?_
              refine MDerR.step (Ob.move Wanted.free Has.oldIs) ?_
              refine MDerR.step (Ob.indexV Wanted.free (Has.new 1 1) (Has.new 2 0) (fun w1 => index_bb hlr)) ?_
              refine MDerR.step (Ob.loadV Wanted.free (Has.new 3 0) (fun w1 hb1 => load_b hb1 e1)) ?_
              refine MDerR.step (Ob.convB Wanted.free (Has.new 4 0) (fun w1 hb1 => conv_bytes (S1.out.mono hb1))) ?_
              refine MDerR.step (Ob.fieldV Wanted.free Has.oldIs (fun w1 => field_ans4)) ?_
              refine MDerR.step (Ob.loadV Wanted.free (Has.new 6 0) (fun w1 hb1 => load_bb hb1 y4)) ?_
              refine MDerR.step (Ob.move Wanted.free Has.oldIs) ?_
              refine MDerR.step (Ob.indexV Wanted.free (Has.new 7 1) (Has.new 8 0) (fun w1 => index_bb hlr)) ?_
              refine MDerR.step (Ob.loadV Wanted.free (Has.new 9 0) (fun w1 hb1 => load_b hb1 e2)) ?_
              refine MDerR.step (Ob.convB Wanted.free (Has.new 10 0) (fun w1 hb1 => conv_bytes (S2.out.mono hb1))) ?_
              refine MDerR.step (Ob.binV Wanted.free (Has.new 5 6) (Has.new 11 0) (str_neq x u hl')) ?_
              simp only [MDerR, dstsOf, List.map, EndM, List.reverse_cons, List.reverse_nil, List.nil_append, List.cons_append]
              intro wE hE
              iterate 13 (rintro _ rfl)
              simp only [Act.put, List.setIfInBounds_toArray, List.set_cons_zero, List.set_cons_succ]
              go_wp2
              go_roundw
              case rel => exact ListRel.next (hbr.le hE) hlr D1.out D2.out HT.out HL.out
              case measure => simp [intOf]; omega
            · have HL := Lib.hid hl
              have hl' : (x != u) = true := by simp [hl]
              clear hl
              go_wp2_with fail
              refine wp_region_M mixed (by kernel_rfl) ?_
              refine MDerR.step (Ob.fieldV Wanted.free Has.oldIs (fun w1 => field_ans4)) ?_
              refine MDerR.step (Ob.loadV Wanted.free (Has.new 0 0) (fun w1 hb1 => load_bb hb1 y3)) ?_
              refine MDerR.step (Ob.move Wanted.free Has.oldIs) ?_
              refine MDerR.step (Ob.indexV Wanted.free (Has.new 1 1) (Has.new 2 0) (fun w1 => index_bb hlr)) ?_
              refine MDerR.step (Ob.loadV Wanted.free (Has.new 3 0) (fun w1 hb1 => load_b hb1 e1)) ?_
              refine MDerR.step (Ob.convB Wanted.free (Has.new 4 0) (fun w1 hb1 => conv_bytes (S1.out.mono hb1))) ?_
              refine MDerR.step (Ob.fieldV Wanted.free Has.oldIs (fun w1 => field_ans4)) ?_
              refine MDerR.step (Ob.loadV Wanted.free (Has.new 6 0) (fun w1 hb1 => load_bb hb1 y4)) ?_
              refine MDerR.step (Ob.move Wanted.free Has.oldIs) ?_
              refine MDerR.step (Ob.indexV Wanted.free (Has.new 7 1) (Has.new 8 0) (fun w1 => index_bb hlr)) ?_
              refine MDerR.step (Ob.loadV Wanted.free (Has.new 9 0) (fun w1 hb1 => load_b hb1 e2)) ?_
              refine MDerR.step (Ob.convB Wanted.free (Has.new 10 0) (fun w1 hb1 => conv_bytes (S2.out.mono hb1))) ?_
              refine MDerR.step (Ob.binV Wanted.free (Has.new 5 6) (Has.new 11 0) (str_neq x u hl')) ?_
              simp only [MDerR, dstsOf, List.map, EndM, List.reverse_cons, List.reverse_nil, List.nil_append, List.cons_append]
              intro wE hE
              iterate 13 (rintro _ rfl)
              simp only [Act.put, List.setIfInBounds_toArray, List.set_cons_zero, List.set_cons_succ]
              go_wp2
              go_ret
              exact retB (by rw [list_no D1.out D2.out HT.out HL.out]; simp) (HB0.out.le (hbr.le hE))
          · have HT := Lib.hid (list_yes ht H2.out.len H4.out.len hlr); clear ht
            go_wp2
            go_ret
            exact retB (by rw [HS.out, HT.out]; simp) (HB0.out.le hbr)
  · go_enter Tryz.func44, Tryz.ntmps44
    go_wp2
    all_goals go_ret
    · rename_i g
      exact retB (by rw [LB (fun e => by subst e; simp at g)]; simp) (by go_grown)
    · rename_i g
      exact retB (by rw [LL (fun e => by subst e; simp at g)]; simp) (by go_grown)
    all_goals exact retB (by simp_all) (by go_grown)
end Go.Proofs.YthoacbdoogpaiaaGreatDoor

/-
  Are two things that were done the same.
-/
namespace Go.Proofs.YthoacbdoogpaiaaGreatDoor
open Go.RowKit

structure DidS where
  task : Int
  step : Int
  stripe : Int
  waits : Bool
  next : Int
  versions : List Int
  made : Bool
  call : CallS
  ans : AnsS
  deriving DecidableEq
structure DidAt where
  vA : Option Addr
  vn : Nat
  vc : Nat
  cA : Option Addr
  cn : Nat
  cc : Nat
  lA : Option Addr
  ln : Nat
  lc : Nat
  bA : Option Addr
  bn : Nat
  bc : Nat
def didV (d : DidS) (p : DidAt) : Value := .agg #[.int .i64 d.task, .int .i64 d.step, .int .i64 d.stripe, .bool d.waits, .int .i64 d.next, .slice p.vA p.vn p.vc, .bool d.made,
  .int .i64 d.call.op, strV d.call.key, strV d.call.other, strV d.call.item, .int .i64 d.call.qty, .slice p.cA p.cn p.cc,
  .int .i64 d.ans.op, .int .i64 d.ans.err, .int .i64 d.ans.count, .slice p.lA p.ln p.lc, .slice p.bA p.bn p.bc]
structure DidIn (w : World) (d : DidS) (p : DidAt) : Prop where
  v : Sl encI w p.vA p.vn p.vc d.versions
  c : Sl encB w p.cA p.cn p.cc d.call.data
  l : Sl encL w p.lA p.ln p.lc d.ans.lines
  b : BSl w p.bA p.bn p.bc d.ans.batches
theorem DidIn.mono {w w' : World} {d : DidS} {p : DidAt} (h : DidIn w d p) (hb : Below w.heap.size w w') : DidIn w' d p := ⟨h.v.mono hb, h.c.mono hb, h.l.mono hb, h.b.mono hb⟩
def didEq (a b : DidS) : Bool := a.task == b.task && a.step == b.step && a.stripe == b.stripe && a.waits == b.waits && a.next == b.next && a.made == b.made && decide (a.versions = b.versions) && callEq a.call b.call && ansEq a.ans b.ans

set_option maxRecDepth 100000 in
set_option maxHeartbeats 16000000 in
theorem rsameDid (a b : DidS) (p q : DidAt) (w : World) (ha : DidIn w a p) (hb : DidIn w b q) :
    Calls Tryz.prog 21 #[didV a p, didV b q] w (Ret w (IsB (didEq a b))) := by
  obtain ⟨t1, s1, st1, wt1, nx1, v1, md1, c1, a1⟩ := a
  obtain ⟨t2, s2, st2, wt2, nx2, v2, md2, c2, a2⟩ := b
  have C1 := fun (w1 : World) (hb1 : Below w.heap.size w w1) => rInts _ _ _ _ _ _ v1 v2 w1 (ha.mono hb1).v (hb.mono hb1).v
  have C2 := fun (w1 : World) (hb1 : Below w.heap.size w w1) => rsameCall c1 c2 _ _ _ _ _ _ w1 (ha.mono hb1).c (hb.mono hb1).c
  have C3 := fun (w1 : World) (hb1 : Below w.heap.size w w1) => rsameAnswer a1 a2 _ _ _ _ _ _ _ _ _ _ _ _ w1 (ha.mono hb1).l (ha.mono hb1).b (hb.mono hb1).l (hb.mono hb1).b
  unfold didV didEq
  unfold callV at C2
  unfold ansV at C3
  simp only at C1 C2 C3 ⊢
  clear ha hb
  generalize decide (v1 = v2) = r1 at *
  generalize callEq c1 c2 = r2 at *
  generalize ansEq a1 a2 = r3 at *
  obtain ⟨o1, k1, h1, i1, q1, l1⟩ := c1
  obtain ⟨o2, k2, h2, i2, q2, l2⟩ := c2
  obtain ⟨ao1, ae1, ac1, al1, ab1⟩ := a1
  obtain ⟨ao2, ae2, ac2, al2, ab2⟩ := a2
  obtain ⟨p1, p2, p3, p4, p5, p6, p7, p8, p9, p10, p11, p12⟩ := p
  obtain ⟨q1, q2, q3, q4, q5, q6, q7, q8, q9, q10, q11, q12⟩ := q
  simp only at C1 C2 C3 ⊢
  have D1 := Lib.hid C1; have D2 := Lib.hid C2; have D3 := Lib.hid C3
  clear C1 C2 C3
  go_enter Tryz.func21, Tryz.ntmps21
  go_wp2_with (first | (go_at_call 43; ((with_reducible refine (D1.out _ (by go_grown)).mono ?_); rintro e w1 ⟨_, rfl, hb1, rfl⟩; have x1 := fun o => (bcell hb1).1 w.heap.size o (by simp; omega); have x2 := fun o => (bcell hb1).1 (w.heap.size + 1) o (by simp))) | (go_at_call 40; ((with_reducible refine (D2.out _ (Below.le (by go_grown) hb1)).mono ?_); rintro e w2 ⟨_, rfl, hb2, rfl⟩; have y1 := fun o => (bcell hb2).1 w.heap.size o (by have := hb1.size; simp at this; omega); have y2 := fun o => (bcell hb2).1 (w.heap.size + 1) o (by have := hb1.size; simp at this; omega))) | (go_at_call 44; ((with_reducible refine (D3.out _ ((Below.le (by go_grown) hb1).le hb2)).mono ?_); rintro e w3 ⟨_, rfl, hb3, rfl⟩)))
  all_goals go_ret
  · exact retB (by clear D1 D2 D3; simp_all) (((Below.le (by go_grown) hb1).le hb2).le hb3)
  · exact retB (by clear D1 D2 D3; simp_all) ((Below.le (by go_grown) hb1).le hb2)
  · exact retB (by clear D1 D2 D3; simp_all) (Below.le (by go_grown) hb1)
  all_goals exact retB (by clear D1 D2 D3; simp_all) (by go_grown)
set_option maxRecDepth 100000 in
set_option maxHeartbeats 16000000 in
theorem csameDid (a b : DidS) (p q : DidAt) (w : World) (ha : DidIn w a p) (hb : DidIn w b q) :
    Calls Tryz.prog 20 #[didV a p, didV b q] w (Ret w (IsB (didEq a b))) := by
  obtain ⟨t1, s1, st1, wt1, nx1, v1, md1, c1, a1⟩ := a
  obtain ⟨t2, s2, st2, wt2, nx2, v2, md2, c2, a2⟩ := b
  have C1 := fun (w1 : World) (hb1 : Below w.heap.size w w1) => eqInts _ _ _ _ _ _ v1 v2 w1 (ha.mono hb1).v (hb.mono hb1).v
  have C2 := fun (w1 : World) (hb1 : Below w.heap.size w w1) => csameCall c1 c2 _ _ _ _ _ _ w1 (ha.mono hb1).c (hb.mono hb1).c
  have C3 := fun (w1 : World) (hb1 : Below w.heap.size w w1) => csameAnswer a1 a2 _ _ _ _ _ _ _ _ _ _ _ _ w1 (ha.mono hb1).l (ha.mono hb1).b (hb.mono hb1).l (hb.mono hb1).b
  unfold didV didEq
  unfold callV at C2
  unfold ansV at C3
  simp only at C1 C2 C3 ⊢
  clear ha hb
  generalize decide (v1 = v2) = r1 at *
  generalize callEq c1 c2 = r2 at *
  generalize ansEq a1 a2 = r3 at *
  obtain ⟨o1, k1, h1, i1, q1, l1⟩ := c1
  obtain ⟨o2, k2, h2, i2, q2, l2⟩ := c2
  obtain ⟨ao1, ae1, ac1, al1, ab1⟩ := a1
  obtain ⟨ao2, ae2, ac2, al2, ab2⟩ := a2
  obtain ⟨p1, p2, p3, p4, p5, p6, p7, p8, p9, p10, p11, p12⟩ := p
  obtain ⟨q1, q2, q3, q4, q5, q6, q7, q8, q9, q10, q11, q12⟩ := q
  simp only at C1 C2 C3 ⊢
  have D1 := Lib.hid C1; have D2 := Lib.hid C2; have D3 := Lib.hid C3
  clear C1 C2 C3
  go_enter Tryz.func20, Tryz.ntmps20
  go_wp2_with (first | (go_at_call 41; ((with_reducible refine (D1.out _ (by go_grown)).mono ?_); rintro e w1 ⟨_, rfl, hb1, rfl⟩; have x1 := fun o => (bcell hb1).1 w.heap.size o (by simp; omega); have x2 := fun o => (bcell hb1).1 (w.heap.size + 1) o (by simp))) | (go_at_call 39; ((with_reducible refine (D2.out _ (Below.le (by go_grown) hb1)).mono ?_); rintro e w2 ⟨_, rfl, hb2, rfl⟩; have y1 := fun o => (bcell hb2).1 w.heap.size o (by have := hb1.size; simp at this; omega); have y2 := fun o => (bcell hb2).1 (w.heap.size + 1) o (by have := hb1.size; simp at this; omega))) | (go_at_call 42; ((with_reducible refine (D3.out _ ((Below.le (by go_grown) hb1).le hb2)).mono ?_); rintro e w3 ⟨_, rfl, hb3, rfl⟩)))
  all_goals go_ret
  · exact retB (by clear D1 D2 D3; simp_all) (((Below.le (by go_grown) hb1).le hb2).le hb3)
  · exact retB (by clear D1 D2 D3; simp_all) ((Below.le (by go_grown) hb1).le hb2)
  · exact retB (by clear D1 D2 D3; simp_all) (Below.le (by go_grown) hb1)
  all_goals exact retB (by clear D1 D2 D3; simp_all) (by go_grown)
end Go.Proofs.YthoacbdoogpaiaaGreatDoor

/-
  Are calls, things that were done, small enough.
-/
namespace Go.Proofs.YthoacbdoogpaiaaGreatDoor
open Go.RowKit

def lightS (c : CallS) : Bool := decide (c.key.length ≤ 300) && decide (c.other.length ≤ 300) && decide (c.item.length ≤ 300) && decide (c.data.length ≤ 300)
set_option maxRecDepth 100000 in
set_option maxHeartbeats 4000000 in
theorem clight (a : CallS) (A : Option Addr) (n c : Nat) (w : World) (ha : Sl encB w A n c a.data) :
    Calls Tryz.prog 13 #[callV a A n c] w (Ret w (IsB (lightS a))) := by
  obtain ⟨o1, k1, h1, i1, q1, l1⟩ := a
  have hl : n = l1.length := ha.len
  unfold callV lightS
  simp only
  rw [← hl]
  clear ha hl
  go_enter Tryz.func13, Tryz.ntmps13
  go_wp2
  all_goals go_ret
  all_goals exact retB (by rw [Bool.eq_iff_iff]; simp; omega) (by go_grown)

def smallS (d : DidS) : Bool := lightS d.call && decide (d.versions.length ≤ 20) && decide (d.ans.lines.length ≤ 20) && decide (d.ans.batches.length ≤ 20) && d.ans.batches.all fun l => decide (l.length ≤ 300)
def AllRel (W : World) (n : Nat) (ls : List (List UInt8)) (i : Value) (wr : World) : Prop :=
  ∃ k : Nat, i = .int .i64 k ∧ k ≤ n ∧ Below W.heap.size W wr ∧ (ls.all fun l => decide (l.length ≤ 300)) = (ls.drop k).all fun l => decide (l.length ≤ 300)
set_option maxRecDepth 100000 in
set_option maxHeartbeats 8000000 in
theorem csmall (a : DidS) (p : DidAt) (w : World) (ha : DidIn w a p) :
    Calls Tryz.prog 17 #[didV a p] w (Ret w (IsB (smallS a))) := by
  obtain ⟨t1, s1, st1, wt1, nx1, v1, md1, c1, a1⟩ := a
  have C := fun (w1 : World) (hb1 : Below w.heap.size w w1) => clight c1 _ _ _ w1 (ha.mono hb1).c
  have lv := ha.v.len; have ll := ha.l.len; have lb := ha.b.len; have hbig := ha.b.big
  have BB := ha.b
  unfold smallS didV
  unfold callV at C
  simp only at C lv ll lb BB hbig ⊢
  clear ha
  generalize lightS c1 = r at *
  rw [← lv, ← ll, ← lb]
  obtain ⟨o1, k1, h1, i1, q1, l1⟩ := c1
  obtain ⟨ao1, ae1, ac1, al1, ab1⟩ := a1
  obtain ⟨p1, p2, p3, p4, p5, p6, p7, p8, p9, p10, p11, p12⟩ := p
  simp only at C BB hbig ⊢
  have D1 := Lib.hid C; have HB := Lib.hid BB
  clear C BB lv ll lb
  by_cases hall : r = true ∧ p2 ≤ 20 ∧ p8 ≤ 20 ∧ p11 ≤ 20
  · obtain ⟨rfl, hv, hl, hb⟩ := hall
    go_enter Tryz.func17, Tryz.ntmps17
    go_wp2_with (go_at_call 13; ((with_reducible refine (D1.out _ (by go_grown)).mono ?_); rintro e w1 ⟨_, rfl, hb1, rfl⟩; have x1 := fun o => (bcell hb1).1 w.heap.size o (by simp)))
    have y := x1 17
    simp [go_sem] at y
    have Y := Lib.hid y
    have HB1 := Lib.hid (HB.out.mono (Below.le (by go_grown) hb1))
    have HBW := Lib.hid (show Below w.heap.size w w1 from Below.le (by go_grown) hb1)
    clear y x1 D1 hb1
    go_loopw [3] (fun i wr => AllRel w1 p11 ab1 i wr) (fun i _ => p11 - (intOf i).toNat)
    case atStart => exact ⟨0, rfl, by omega, Below.refl _ _, rfl⟩
    case round =>
      obtain ⟨k, rfl, hk, hbw, hs⟩ := hrel
      have y1 := cellKeep hbw Y.out
      by_cases hlt : k < p11
      · obtain ⟨b, o, A2, n2, c2, l, rfl, -, -, d2, e2, s2⟩ := (HB1.out.mono hbw).at_ (i := k) hlt
        have hl2 : n2 = l.length := s2.len
        rw [d2, List.all_cons, ← hl2] at hs
        have HS := Lib.hid hs; clear hs d2 s2 hl2
        by_cases h3 : n2 ≤ 300
        · have h3' : ¬ ((n2 : Int) > 300) := by omega
          go_wp2
          go_roundw
          case rel => exact ⟨k + 1, by simp, hlt, hbw, by rw [HS.out]; simp [h3]⟩
          case measure => simp [intOf]; omega
        · have h3' : ((n2 : Int) > 300) := by omega
          go_wp2
          go_ret
          exact retB (by rw [HS.out]; simp [hv, hl, hb, h3]) (HBW.out.le hbw)
      · have hkn : k = p11 := by omega
        have hd : ab1.drop k = [] := List.drop_of_length_le (by rw [← HB1.out.len]; omega)
        rw [hd] at hs
        have HS := Lib.hid hs; clear hs hd
        go_wp2
        go_ret
        exact retB (by rw [HS.out]; simp [hv, hl, hb]) (HBW.out.le hbw)
  · have hf : (r && decide (p2 ≤ 20) && decide (p8 ≤ 20) && decide (p11 ≤ 20)) = false := by
      rw [Bool.eq_false_iff]; intro h; apply hall; simpa [and_assoc] using h
    rw [hf]
    have HF := Lib.hid hf; clear hf
    go_enter Tryz.func17, Tryz.ntmps17
    go_wp2_with (go_at_call 13; ((with_reducible refine (D1.out _ (by go_grown)).mono ?_); rintro e w1 ⟨_, rfl, hb1, rfl⟩; have x1 := fun o => (bcell hb1).1 w.heap.size o (by simp)))
    all_goals first
      | (exfalso; exact hall ⟨by assumption, by omega, by omega, by omega⟩)
      | (go_ret; exact retB (by simp) (Below.le (by go_grown) hb1))
end Go.Proofs.YthoacbdoogpaiaaGreatDoor

/-
  Operations and things done in boxes.
-/
namespace Go.Proofs.YthoacbdoogpaiaaGreatDoor
open Go.RowKit

def opCells (o : OpS) (A : Option Addr) (n m : Nat) : Array Value := #[.int .i64 o.kind, .int .i64 o.n, .int .i64 o.call.op, strV o.call.key, strV o.call.other, strV o.call.item, .int .i64 o.call.qty, .slice A n m]
def didCells (d : DidS) (p : DidAt) : Array Value := #[.int .i64 d.task, .int .i64 d.step, .int .i64 d.stripe, .bool d.waits, .int .i64 d.next, .slice p.vA p.vn p.vc, .bool d.made,
  .int .i64 d.call.op, strV d.call.key, strV d.call.other, strV d.call.item, .int .i64 d.call.qty, .slice p.cA p.cn p.cc,
  .int .i64 d.ans.op, .int .i64 d.ans.err, .int .i64 d.ans.count, .slice p.lA p.ln p.lc, .slice p.bA p.bn p.bc]
/-- A box that holds some cells. -/
def BoxAt (w : World) (b : Nat) (cs : Array Value) (ty : TypeId) : Prop := w.heap[b]? = some (.cells cs ty (0, 0))
theorem BoxAt.mono {w w' : World} {b : Nat} {cs : Array Value} {ty : TypeId} (h : BoxAt w b cs ty) (hb : Below w.heap.size w w') : BoxAt w' b cs ty := (hb.block b (Array.getElem?_eq_some_iff.1 h).1).trans h
theorem BoxAt.cell {w : World} {b : Nat} {cs : Array Value} {ty : TypeId} (h : BoxAt w b cs ty) (j : Nat) (v : Value) (hv : cs[j]? = some v) : w.cell? ⟨b, j, none⟩ = some v := by
  rw [cell_of_row w b j cs ty (0, 0) h]; exact hv
set_option maxRecDepth 100000 in
set_option maxHeartbeats 1000000 in
theorem load_op {w : World} {b : Nat} {o : OpS} {A : Option Addr} {n m : Nat} (h : BoxAt w b (opCells o A n m) 41) : (Instr.loadAt 41 (.pointer (some ⟨b, 0, none⟩))).run Tryz.prog w = .ok (opV o A n m) w := by
  have h0 := h.cell 0 (.int .i64 o.kind) rfl
  have h1 := h.cell 1 (.int .i64 o.n) rfl
  have h2 := h.cell 2 (.int .i64 o.call.op) rfl
  have h3 := h.cell 3 (strV o.call.key) rfl
  have h4 := h.cell 4 (strV o.call.other) rfl
  have h5 := h.cell 5 (strV o.call.item) rfl
  have h6 := h.cell 6 (.int .i64 o.call.qty) rfl
  have h7 := h.cell 7 (.slice A n m) rfl
  simp [go_sem, h0, h1, h2, h3, h4, h5, h6, h7, opV]
theorem BoxAt.range {w : World} {b : Nat} {cs : Array Value} {ty : TypeId} (h : BoxAt w b cs ty) : w.rangeAt b 0 cs.toList := fun j v hv => by
  rw [Nat.zero_add]
  exact h.cell j v (by rw [← Array.getElem?_toList]; exact hv)
theorem load_did {w : World} {b : Nat} {d : DidS} {p : DidAt} (h : BoxAt w b (didCells d p) 54) : (Instr.loadAt 54 (.pointer (some ⟨b, 0, none⟩))).run Tryz.prog w = .ok (didV d p) w :=
  run_loadAt_mid (P := Tryz.prog) w b 0 54 (didCells d p).toList _ h.range Tryz.underlying54 rfl (show (Tryz.prog.info? 54).map (·.size) = some 18 by kernel_rfl)
theorem opEq_refl (o : OpS) : opEq o o = true := by simp [opEq, callEq]
theorem didEq_refl (d : DidS) : didEq d d = true := by simp [didEq, callEq, ansEq]
end Go.Proofs.YthoacbdoogpaiaaGreatDoor

/-
  ScriptEquals: for any operations and things done, with no further condition, the law returns true, and its arguments read afterwards as they read before.
-/
namespace Go.Proofs.YthoacbdoogpaiaaGreatDoor
open Go.RowKit

theorem entersSEq : Enters Tryz.prog 18 := enters_of Tryz.func18 (by kernel_rfl) rfl
theorem entersREq : Enters Tryz.prog 19 := enters_of Tryz.func19 (by kernel_rfl) rfl
theorem entersSSame : Enters Tryz.prog 20 := enters_of Tryz.func20 (by kernel_rfl) rfl
theorem entersRSameD : Enters Tryz.prog 21 := enters_of Tryz.func21 (by kernel_rfl) rfl
theorem entersKnown : Enters Tryz.prog 7 := enters_of Tryz.func7 (by kernel_rfl) rfl
theorem BoxAt.new {w : World} {b : Nat} {cs : Array Value} {ty : TypeId} (h : b = w.heap.size) : BoxAt (w.alloc (.cells cs ty (0, 0))) b cs ty := by
  subst h
  unfold BoxAt World.alloc
  simp
/-- A wide load at the operation. -/
theorem wpList_load {P : Program} {ops : Array Oper} {rest : List Oper} {o : Oper} {a : Act} {w : World} {Q : Exit → Act → World → Prop} (hw : Region.wanted o (yielded ops a.tmps) = true) (x : Operand) (t : TypeId) (hop : o.op = Op.load t x)
    {p r : Value} (hx : a.eval x = p) (L : (Instr.loadAt t p).run P w = .ok r w) (hK : wpList P ops Q rest (a.put o.dst r) w) : wpList P ops Q (o :: rest) a w := by
  simp only [wpList, hw]
  have e : (execOp a.eval o).run P w = .ok (.value r) w := by simp [execOp, hop, hx, L]
  unfold Oper.wp
  rw [e]
  exact .inl hK
set_option maxRecDepth 100000 in
set_option maxHeartbeats 8000000 in
theorem lawEquals (a b : OpS) (x y : DidS) (A : Option Addr) (n c : Nat) (B : Option Addr) (m d : Nat) (p q : DidAt) (w : World) (ha : Sl encB w A n c a.call.data) (hb : Sl encB w B m d b.call.data) (hx : DidIn w x p) (hy : DidIn w y q) :
    Calls Tryz.prog 6 #[opV a A n c, opV b B m d, didV x p, didV y q] w (Ret w (IsB true)) := by
  obtain ⟨W, hW⟩ : ∃ W, W = (((w.alloc (.cells (opCells a A n c) 41)).alloc (.cells (opCells b B m d) 41)).alloc (.cells (didCells x p) 54)).alloc (.cells (didCells y q) 54) := ⟨_, rfl⟩
  have hb0 : Below w.heap.size w W := by rw [hW]; go_grown
  have b0 : BoxAt W (w.heap.size) (opCells a A n c) 41 := by rw [hW]; exact (BoxAt.new (w := w) rfl).mono (by go_grown)
  have b1 : BoxAt W (w.heap.size + 1) (opCells b B m d) 41 := by rw [hW]; exact (BoxAt.new (w := w.alloc (.cells (opCells a A n c) 41)) (by simp [go_sem])).mono (by go_grown)
  have b2 : BoxAt W (w.heap.size + 1 + 1) (didCells x p) 54 := by rw [hW]; exact (BoxAt.new (w := (w.alloc (.cells (opCells a A n c) 41)).alloc (.cells (opCells b B m d) 41)) (by simp [go_sem])).mono (by go_grown)
  have b3 : BoxAt W (w.heap.size + 1 + 1 + 1) (didCells y q) 54 := by rw [hW]; exact (BoxAt.new (w := ((w.alloc (.cells (opCells a A n c) 41)).alloc (.cells (opCells b B m d) 41)).alloc (.cells (didCells x p) 54)) (by simp [go_sem]))
  have C1 := clight a.call A n c W (ha.mono hb0)
  have C2 := fun (w1 : World) (h1 : Below W.heap.size W w1) => clight b.call B m d w1 ((hb.mono hb0).mono h1)
  obtain ⟨va, hva⟩ : ∃ v, v = opV a A n c := ⟨_, rfl⟩
  obtain ⟨vb, hvb⟩ : ∃ v, v = opV b B m d := ⟨_, rfl⟩
  obtain ⟨vx, hvx⟩ : ∃ v, v = didV x p := ⟨_, rfl⟩
  obtain ⟨vy, hvy⟩ : ∃ v, v = didV y q := ⟨_, rfl⟩
  have C3 : ∀ (w1 : World) (h1 : Below W.heap.size W w1), Calls Tryz.prog 17 #[vx] w1 (Ret w1 (IsB (smallS x))) := fun w1 h1 => by rw [hvx]; exact csmall x p w1 ((hx.mono hb0).mono h1)
  have C4 : ∀ (w1 : World) (h1 : Below W.heap.size W w1), Calls Tryz.prog 17 #[vy] w1 (Ret w1 (IsB (smallS y))) := fun w1 h1 => by rw [hvy]; exact csmall y q w1 ((hy.mono hb0).mono h1)
  unfold opV at hva hvb
  unfold didV at hvx hvy
  have VA := Lib.hid hva; have VB := Lib.hid hvb; have VX := Lib.hid hvx; have VY := Lib.hid hvy
  clear hva hvb hvx hvy
  unfold opCells didCells at hW
  unfold opV didV
  have HW := Lib.hid hW; have HB := Lib.hid hb0; have B0 := Lib.hid b0; have B1 := Lib.hid b1; have B2 := Lib.hid b2; have B3 := Lib.hid b3
  have HA := Lib.hid ha; have HBB := Lib.hid hb; have HX := Lib.hid hx; have HY := Lib.hid hy
  unfold callV at C1 C2
  have D1 := Lib.hid C1; have D2 := Lib.hid C2; have D3 := Lib.hid C3; have D4 := Lib.hid C4
  clear hW hb0 b0 b1 b2 b3 ha hb hx hy C1 C2 C3 C4
  cases hl1 : lightS a.call with
  | false =>
    rw [hl1] at D1
    clear hl1
    go_enter Tryz.func6, Tryz.ntmps6
    go_wp2_with fail
    rw [← HW.out, ← VA.out, ← VB.out, ← VX.out, ← VY.out]
    refine D1.out.mono ?_
    rintro _ w1 ⟨_, rfl, h1, rfl⟩
    have HBK := Lib.hid (HB.out.le h1)
    clear h1 D1
    go_wp2_with fail
    refine (known_true _).mono ?_
    rintro _ w9 ⟨_, rfl, hb9, rfl⟩
    have HB9 := Lib.hid (HBK.out.le hb9)
    clear hb9
    go_wp2
    go_ret
    exact retB rfl HB9.out
  | true =>
    rw [hl1] at D1
    clear hl1
    go_enter Tryz.func6, Tryz.ntmps6
    go_wp2_with fail
    rw [← HW.out, ← VA.out, ← VB.out, ← VX.out, ← VY.out]
    refine D1.out.mono ?_
    rintro _ w1 ⟨_, rfl, h1, rfl⟩
    have H1 := Lib.hid h1
    have z2 := (B1.out.mono h1).cell 2 (.int .i64 b.call.op) rfl
    have z3 := (B1.out.mono h1).cell 3 (strV b.call.key) rfl
    have z4 := (B1.out.mono h1).cell 4 (strV b.call.other) rfl
    have z5 := (B1.out.mono h1).cell 5 (strV b.call.item) rfl
    have z6 := (B1.out.mono h1).cell 6 (.int .i64 b.call.qty) rfl
    have z7 := (B1.out.mono h1).cell 7 (.slice B m d) rfl
    clear h1 D1
    go_wp2_with fail
    clear z2 z3 z4 z5 z6 z7
    cases hl2 : lightS b.call with
    | false =>
      have e2 := D2.out w1 H1.out
      rw [hl2] at e2
      refine e2.mono ?_
      clear e2 hl2
      rintro _ w2 ⟨_, rfl, h2, rfl⟩
      have HBK := Lib.hid ((HB.out.le H1.out).le h2)
      clear h2
      go_wp2_with fail
      refine (known_true _).mono ?_
      rintro _ w9 ⟨_, rfl, hb9, rfl⟩
      have HB9 := Lib.hid (HBK.out.le hb9)
      clear hb9
      go_wp2
      go_ret
      exact retB rfl HB9.out
    | true =>
      have e2 := D2.out w1 H1.out
      rw [hl2] at e2
      refine e2.mono ?_
      clear e2 hl2
      rintro _ w2 ⟨_, rfl, h2, rfl⟩
      have H2 := Lib.hid (H1.out.le h2)
      have l2 := load_did (B2.out.mono H2.out)
      unfold didV at l2
      rw [← VX.out] at l2
      have L2 := Lib.hid l2
      clear h2 l2
      go_wp2_with (refine wpList_load (by first | rfl | simp [Region.wanted, yielded]) _ _ rfl rfl L2.out ?_; simp only [Act.put, List.setIfInBounds_toArray, List.set_cons_zero, List.set_cons_succ])
      clear L2
      have e3 := D3.out w2 H2.out
      cases hl3 : smallS x with
      | false =>
        rw [hl3] at e3
        refine e3.mono ?_
        clear e3 hl3
        rintro _ w3 ⟨_, rfl, h3, rfl⟩
        have HBK := Lib.hid ((HB.out.le H2.out).le h3)
        clear h3
        go_wp2_with fail
        refine (known_true _).mono ?_
        rintro _ w9 ⟨_, rfl, hb9, rfl⟩
        have HB9 := Lib.hid (HBK.out.le hb9)
        clear hb9
        go_wp2
        go_ret
        exact retB rfl HB9.out
      | true =>
        rw [hl3] at e3
        refine e3.mono ?_
        clear e3 hl3
        rintro _ w3 ⟨_, rfl, h3, rfl⟩
        have H3 := Lib.hid (H2.out.le h3)
        have l3 := load_did (B3.out.mono H3.out)
        unfold didV at l3
        rw [← VY.out] at l3
        have L3 := Lib.hid l3
        clear h3 l3
        go_wp2_with (refine wpList_load (by first | rfl | simp [Region.wanted, yielded]) _ _ rfl rfl L3.out ?_; simp only [Act.put, List.setIfInBounds_toArray, List.set_cons_zero, List.set_cons_succ])
        clear L3
        have e4 := D4.out w3 H3.out
        cases hl4 : smallS y with
        | false =>
          rw [hl4] at e4
          refine e4.mono ?_
          clear e4 hl4
          rintro _ w4 ⟨_, rfl, h4, rfl⟩
          have HBK := Lib.hid ((HB.out.le H3.out).le h4)
          clear h4
          go_wp2_with fail
          refine (known_true _).mono ?_
          rintro _ w9 ⟨_, rfl, hb9, rfl⟩
          have HB9 := Lib.hid (HBK.out.le hb9)
          clear hb9
          go_wp2
          go_ret
          exact retB rfl HB9.out
        | true =>
          rw [hl4] at e4
          refine e4.mono ?_
          clear e4 hl4
          rintro _ w4 ⟨_, rfl, h4, rfl⟩
          have H4 := Lib.hid (H3.out.le h4)
          have HB4 := Lib.hid (HB.out.le H4.out)
          have P0 := Lib.hid (B0.out.mono H4.out); have P1 := Lib.hid (B1.out.mono H4.out); have P2 := Lib.hid (B2.out.mono H4.out); have P3 := Lib.hid (B3.out.mono H4.out)
          have QA := Lib.hid ((HA.out.mono HB.out).mono H4.out); have QB := Lib.hid ((HBB.out.mono HB.out).mono H4.out); have QX := Lib.hid ((HX.out.mono HB.out).mono H4.out); have QY := Lib.hid ((HY.out.mono HB.out).mono H4.out)
          clear h4 D2 D3 D4 H1 H2 H3 H4 B0 B1 B2 B3 HA HBB HX HY HW HB
          have f1 := fun (w5 : World) (h5 : Below w4.heap.size w4 w5) => ceq30 a b A B n c m d w5 (QA.out.mono h5) (QB.out.mono h5)
          have f2 := fun (w5 : World) (h5 : Below w4.heap.size w4 w5) => req a b A B n c m d w5 (QA.out.mono h5) (QB.out.mono h5)
          have f3 := fun (w5 : World) (h5 : Below w4.heap.size w4 w5) => ceq30 a a A A n c n c w5 (QA.out.mono h5) (QA.out.mono h5)
          have f4 := fun (w5 : World) (h5 : Below w4.heap.size w4 w5) => csameDid x y p q w5 (QX.out.mono h5) (QY.out.mono h5)
          have f5 := fun (w5 : World) (h5 : Below w4.heap.size w4 w5) => rsameDid x y p q w5 (QX.out.mono h5) (QY.out.mono h5)
          have f6 := fun (w5 : World) (h5 : Below w4.heap.size w4 w5) => csameDid x x p p w5 (QX.out.mono h5) (QX.out.mono h5)
          rw [opEq_refl] at f3
          rw [didEq_refl] at f6
          generalize opEq a b = r1 at *
          generalize didEq x y = r2 at *
          have F1 := Lib.hid f1; have F2 := Lib.hid f2; have F3 := Lib.hid f3; have F4 := Lib.hid f4; have F5 := Lib.hid f5; have F6 := Lib.hid f6
          clear f1 f2 f3 f4 f5 f6 QA QB QX QY
          have e1 : (r1 == r1) = true := by simp
          have e2 : (r2 == r2) = true := by simp
          go_wp2_with fail
          refine wp_region_M mixed (by kernel_rfl) ?_
          refine MDerR.step (Ob.loadV Wanted.free Has.oldIs (fun w1 hb1 => load_op (P0.out.mono hb1))) ?_
          refine MDerR.step (Ob.loadV Wanted.free Has.oldIs (fun w1 hb1 => load_op (P1.out.mono hb1))) ?_
          refine MDerR.step (Ob.call2V Wanted.free entersSEq (Has.new 0 1) (Has.new 1 0) (fun w1 hb1 => F1.out w1 hb1)) ?_
          refine MDerR.step (Ob.loadV Wanted.free Has.oldIs (fun w1 hb1 => load_op (P0.out.mono hb1))) ?_
          refine MDerR.step (Ob.loadV Wanted.free Has.oldIs (fun w1 hb1 => load_op (P1.out.mono hb1))) ?_
          refine MDerR.step (Ob.call2V Wanted.free entersREq (Has.new 3 1) (Has.new 4 0) (fun w1 hb1 => F2.out w1 hb1)) ?_
          refine MDerR.step (Ob.binV Wanted.free (Has.new 2 3) (Has.new 5 0) (fun w1 => bool_eql true e1)) ?_
          refine MDerR.step (Ob.move Wanted.free (Has.new 6 0)) ?_
          refine MDerR.step (Ob.loadV (Wanted.on 7 0) Has.oldIs (fun w1 hb1 => load_op (P0.out.mono hb1))) ?_
          refine MDerR.step (Ob.loadV (Wanted.on 7 1) Has.oldIs (fun w1 hb1 => load_op (P0.out.mono hb1))) ?_
          refine MDerR.step (Ob.call2V (Wanted.on 7 2) entersSEq (Has.new 8 1) (Has.new 9 0) (fun w1 hb1 => F3.out w1 hb1)) ?_
          refine MDerR.step (Ob.pickT Wanted.free (Has.new 7 3) (Has.new 10 0)) ?_
          refine MDerR.step (Ob.move Wanted.free (Has.new 11 0)) ?_
          refine MDerR.step (Ob.loadV (Wanted.on 12 0) Has.oldIs (fun w1 hb1 => load_did (P2.out.mono hb1))) ?_
          refine MDerR.step (Ob.loadV (Wanted.on 12 1) Has.oldIs (fun w1 hb1 => load_did (P3.out.mono hb1))) ?_
          refine MDerR.step (Ob.call2V (Wanted.on 12 2) entersSSame (Has.new 13 1) (Has.new 14 0) (fun w1 hb1 => F4.out w1 hb1)) ?_
          refine MDerR.step (Ob.loadV (Wanted.on 12 3) Has.oldIs (fun w1 hb1 => load_did (P2.out.mono hb1))) ?_
          refine MDerR.step (Ob.loadV (Wanted.on 12 4) Has.oldIs (fun w1 hb1 => load_did (P3.out.mono hb1))) ?_
          refine MDerR.step (Ob.call2V (Wanted.on 12 5) entersRSameD (Has.new 16 1) (Has.new 17 0) (fun w1 hb1 => F5.out w1 hb1)) ?_
          refine MDerR.step (Ob.binV (Wanted.on 12 6) (Has.new 15 3) (Has.new 18 0) (fun w1 => bool_eql true e2)) ?_
          refine MDerR.step (Ob.pickT Wanted.free (Has.new 12 7) (Has.new 19 0)) ?_
          refine MDerR.step (Ob.move Wanted.free (Has.new 20 0)) ?_
          refine MDerR.step (Ob.loadV (Wanted.on 21 0) Has.oldIs (fun w1 hb1 => load_did (P2.out.mono hb1))) ?_
          refine MDerR.step (Ob.loadV (Wanted.on 21 1) Has.oldIs (fun w1 hb1 => load_did (P2.out.mono hb1))) ?_
          refine MDerR.step (Ob.call2V (Wanted.on 21 2) entersSSame (Has.new 22 1) (Has.new 23 0) (fun w1 hb1 => F6.out w1 hb1)) ?_
          refine MDerR.step (Ob.pickT Wanted.free (Has.new 21 3) (Has.new 24 0)) ?_
          refine MDerR.step (Ob.move Wanted.free (Has.new 25 0)) ?_
          refine MDerR.step (Ob.call0 (Wanted.on 26 0) entersKnown  (fun w1 hb1 => known_true w1)) ?_
          refine MDerR.step (Ob.pickT Wanted.free (Has.new 26 1) (Has.new 27 0)) ?_
          refine MDerR.step (Ob.assign Wanted.free (Has.new 28 0)) ?_
          simp only [MDerR, dstsOf, List.map, EndM, List.reverse_cons, List.reverse_nil, List.nil_append, List.cons_append]
          intro wE hE
          iterate 30 (rintro _ rfl)
          simp only [Act.put, List.setIfInBounds_toArray, List.set_cons_zero, List.set_cons_succ]
          go_wp2
          go_ret
          exact retB rfl (HB4.out.le hE)
end Go.Proofs.YthoacbdoogpaiaaGreatDoor

/-
  Operations and things done that came in: what they read as.
-/
namespace Go.Proofs.YthoacbdoogpaiaaGreatDoor
open Go.ChangeShapes Go.WideShapes Go.ChangeAt Go.RowKit Go.Deep Go.Joins

section
variable {H : Type} {enc : TypeId × Value → H} {w : World} {base : Nat} {held : Bool}
theorem cells_int : Tryz.prog.cellsOf 3 = 1 := by kernel_rfl
theorem cells_bool : Tryz.prog.cellsOf 4 = 1 := by kernel_rfl
theorem cells_str : Tryz.prog.cellsOf 9 = 1 := by kernel_rfl
theorem cells_u8 : Tryz.prog.cellsOf 5 = 1 := by kernel_rfl
theorem cells_bytes : Tryz.prog.cellsOf 22 = 1 := by kernel_rfl
theorem cells_ints : Tryz.prog.cellsOf 48 = 1 := by kernel_rfl
theorem cells_line : Tryz.prog.cellsOf 140 = 2 := by kernel_rfl
theorem cells_lines : Tryz.prog.cellsOf 49 = 1 := by kernel_rfl
theorem cells_batches : Tryz.prog.cellsOf 50 = 1 := by kernel_rfl
theorem cells_call : Tryz.prog.cellsOf 39 = 6 := by kernel_rfl
theorem cells_ans : Tryz.prog.cellsOf 52 = 5 := by kernel_rfl
theorem cells_op : Tryz.prog.cellsOf 41 = 8 := by kernel_rfl
theorem cells_did : Tryz.prog.cellsOf 54 = 18 := by kernel_rfl
theorem cells_opk : Tryz.prog.cellsOf 37 = 1 := by kernel_rfl
theorem cells_errno : Tryz.prog.cellsOf 25 = 1 := by kernel_rfl
theorem cells_step : Tryz.prog.cellsOf 47 = 1 := by kernel_rfl
theorem cells_kind : Tryz.prog.cellsOf 36 = 1 := by kernel_rfl
theorem open_byte {fuel : Nat} {cs : List Value} {x : DataW H × List MemPlace} (h : DataW.trod enc Tryz.prog w base (fun _ => true) held fuel 5 cs = some x) : ∃ b, encB.enc b = cs := by
  obtain ⟨p, rfl, _, wf⟩ := DataW.trod_int Tryz.underlying5 h
  have h2 : 0 ≤ p ∧ p ≤ 255 := by
    have h3 : IntKind.u8.min ≤ p ∧ p ≤ IntKind.u8.max := by simpa [Lit.wf] using wf
    exact h3
  refine ⟨UInt8.ofNat p.toNat, ?_⟩
  simp [encB]
  omega
theorem open_int1 {fuel : Nat} {cs : List Value} {x : DataW H × List MemPlace} (h : DataW.trod enc Tryz.prog w base (fun _ => true) held fuel 3 cs = some x) : ∃ p, encI.enc p = cs := by
  obtain ⟨p, rfl, _⟩ := DataW.trod_int Tryz.underlying3 h
  exact ⟨p, rfl⟩
theorem list2 {α : Type} {cs : List α} (h : cs.length = 2) : ∃ a b, cs = [a, b] := by
  match cs, h with
  | [a, b], _ => exact ⟨a, b, rfl⟩
theorem open_str {fuel : Nat} {v : Value} {x : DataW H × List MemPlace} (h : DataW.trod enc Tryz.prog w base (fun _ => true) held fuel 9 [v] = some x) : ∃ l, v = strV l := by
  obtain ⟨s, e, _⟩ := DataW.trod_string Tryz.underlying9 h
  simp at e
  exact ⟨s.data.toList, e⟩
theorem open_line {fuel : Nat} {cs : List Value} {x : DataW H × List MemPlace} (h : DataW.trod enc Tryz.prog w base (fun _ => true) held fuel 140 cs = some x) : ∃ p, encL.enc p = cs := by
  obtain ⟨xs, k, _, _, hl, hxl, hf⟩ := DataW.trod_struct Tryz.underlying140 h
  rw [cells_line] at hl
  obtain ⟨a, b, rfl⟩ := list2 hl
  match xs, hxl with
  | [y0, y1], _ =>
    have g0 := hf 0 _ rfl
    have g1 := hf 1 _ rfl
    simp [cells_int, cells_str] at g0 g1
    obtain ⟨l, rfl⟩ := open_str g0
    obtain ⟨q, e1, _⟩ := DataW.trod_int Tryz.underlying3 g1
    simp at e1
    subst e1
    exact ⟨(l, q), rfl⟩
theorem read_sl {α : Type} [Inhabited α] (e : Enc α) {t et : TypeId} (ht : Tryz.prog.underlying t = some (.slice et)) (hz : Tryz.prog.cellsOf et = e.z) (hz0 : 0 < e.z)
    (each : ∀ {fuel : Nat} {cs : List Value} {x : DataW H × List MemPlace}, DataW.trod enc Tryz.prog w base (fun _ => true) held fuel et cs = some x → ∃ a, e.enc a = cs)
    {fuel : Nat} {v : Value} {x : DataW H × List MemPlace} (h : DataW.trod enc Tryz.prog w base (fun _ => true) held fuel t [v] = some x) : ∃ A n c l, v = .slice A n c ∧ Sl e w A n c l := by
  rcases open_slice ht h with ⟨h1, _⟩ | ⟨a, len, cap, m, n, D, Pl, h1, hb, hl, hm, hmm, _, hx⟩
  · cases h1
    exact ⟨none, 0, 0, [], rfl, rfl, Nat.le_refl _, Nat.zero_le _, fun _ => rfl, fun i x hi => by simp at hi⟩
  · cases h1
    rw [if_pos rfl] at hmm
    rw [hz] at hx
    have at_ : ∀ i, i < len → ∃ s : α, ∀ j u, (e.enc s)[j]? = some u → w.cell? (a.add (i * e.z + j)) = some u := by
      intro i hi
      obtain ⟨cs', h1, h2⟩ := hx i (by omega)
      obtain ⟨_, hlen, hcell⟩ := World.cells?_some h1
      obtain ⟨s, hs⟩ := each h2
      refine ⟨s, fun j u hj => ?_⟩
      rw [hs] at hj
      have hj6 : j < e.z := by
        have h9 := (List.getElem?_eq_some_iff.1 hj).1
        omega
      have := hcell j hj6
      rw [add_add] at this
      rw [this]; exact hj
    obtain ⟨q, hq⟩ := choose_lt at_
    refine ⟨some a, len, cap, (List.range len).map q, rfl, by simp, hl, hm, (fun e => nomatch e), fun i v hi => ?_⟩
    have hil : i < len := by have := (List.getElem?_eq_some_iff.1 hi).1; simpa using this
    rw [List.getElem?_map, List.getElem?_range hil] at hi
    simp only [Option.map_some, Option.some.injEq] at hi
    subst hi
    have hc := hq i hil
    obtain ⟨b, o, s⟩ := a
    have hfst : ∀ j, ∃ u, (e.enc (q j))[0]? = some u := fun j => ⟨_, List.getElem?_eq_getElem (by rw [e.len]; exact hz0)⟩
    obtain ⟨u0, h0⟩ := hfst i
    obtain ⟨u1, h01⟩ := hfst 0
    have hs : s = none := by have h9 := World.cell?_spot (hq 0 (by omega) 0 _ h01); simpa [Addr.add] using h9
    subst hs
    refine ⟨b, o, rfl, ?_, fun j u hj => ?_⟩
    · have h9 := hc 0 _ h0
      rw [add_lit] at h9
      exact World.block_lt_of_cell? w _ h9
    · have := hc j u hj
      rw [add_lit] at this
      rw [Nat.add_assoc]; exact this
instance : Inhabited UInt8 := ⟨0⟩
theorem read_bytes {fuel : Nat} {v : Value} {x : DataW H × List MemPlace} (h : DataW.trod enc Tryz.prog w base (fun _ => true) held fuel 22 [v] = some x) : ∃ A n c l, v = .slice A n c ∧ Sl encB w A n c l :=
  read_sl encB Tryz.underlying22 cells_u8 Nat.one_pos (fun h => open_byte h) h
theorem read_ints {fuel : Nat} {v : Value} {x : DataW H × List MemPlace} (h : DataW.trod enc Tryz.prog w base (fun _ => true) held fuel 48 [v] = some x) : ∃ A n c l, v = .slice A n c ∧ Sl encI w A n c l :=
  read_sl encI Tryz.underlying48 cells_int Nat.one_pos (fun h => open_int1 h) h
theorem read_lines {fuel : Nat} {v : Value} {x : DataW H × List MemPlace} (h : DataW.trod enc Tryz.prog w base (fun _ => true) held fuel 49 [v] = some x) : ∃ A n c l, v = .slice A n c ∧ Sl encL w A n c l :=
  read_sl encL Tryz.underlying49 cells_line Nat.two_pos (fun h => open_line h) h
theorem read_batches {fuel : Nat} {v : Value} {x : DataW H × List MemPlace} (h : DataW.trod enc Tryz.prog w base (fun _ => true) held fuel 50 [v] = some x) : ∃ A n c l, v = .slice A n c ∧ BSl w A n c l := by
  rcases open_slice Tryz.underlying50 h with ⟨h1, _⟩ | ⟨a, len, cap, m, n, D, Pl, h1, hb, hl, hm, hmm, _, hx⟩
  · cases h1
    exact ⟨none, 0, 0, [], rfl, rfl, Nat.le_refl _, Nat.zero_le _, fun _ => rfl, fun i x hi => by simp at hi⟩
  · cases h1
    rw [if_pos rfl] at hmm
    rw [cells_bytes] at hx
    have at_ : ∀ i, i < len → ∃ s : Option Addr × Nat × Nat × List UInt8, w.cell? (a.add i) = some (.slice s.1 s.2.1 s.2.2.1) ∧ Sl encB w s.1 s.2.1 s.2.2.1 s.2.2.2 := by
      intro i hi
      obtain ⟨cs', h1, h2⟩ := hx i (by omega)
      obtain ⟨_, hlen, hcell⟩ := World.cells?_some h1
      match cs', hlen with
      | [u], _ =>
        obtain ⟨A, n, c, l, rfl, hs⟩ := read_bytes h2
        refine ⟨(A, n, c, l), ?_, hs⟩
        have := hcell 0 (by omega)
        rw [add_add] at this
        simpa using this
    obtain ⟨q, hq⟩ := choose_lt at_
    refine ⟨some a, len, cap, (List.range len).map fun i => (q i).2.2.2, rfl, by simp, hl, hm, (fun e => nomatch e), fun i v hi => ?_⟩
    have hil : i < len := by have := (List.getElem?_eq_some_iff.1 hi).1; simpa using this
    rw [List.getElem?_map, List.getElem?_range hil] at hi
    simp only [Option.map_some, Option.some.injEq] at hi
    subst hi
    obtain ⟨hc, hs⟩ := hq i hil
    obtain ⟨b, o, s⟩ := a
    have hsp : s = none := by have h9 := World.cell?_spot (hq 0 (by omega)).1; simpa [Addr.add] using h9
    subst hsp
    rw [add_lit] at hc
    exact ⟨b, o, (q i).1, (q i).2.1, (q i).2.2.1, rfl, World.block_lt_of_cell? w _ hc, hc, hs⟩
theorem list6 {α : Type} {cs : List α} (h : cs.length = 6) : ∃ a b c d e f, cs = [a, b, c, d, e, f] := by
  match cs, h with
  | [a, b, c, d, e, f], _ => exact ⟨a, b, c, d, e, f, rfl⟩
theorem list5 {α : Type} {cs : List α} (h : cs.length = 5) : ∃ a b c d e, cs = [a, b, c, d, e] := by
  match cs, h with
  | [a, b, c, d, e], _ => exact ⟨a, b, c, d, e, rfl⟩
theorem open_call {fuel : Nat} {cs : List Value} {x : DataW H × List MemPlace} (h : DataW.trod enc Tryz.prog w base (fun _ => true) held fuel 39 cs = some x) :
    ∃ (c : CallS) (A : Option Addr) (n m : Nat), cs = [.int .i64 c.op, strV c.key, strV c.other, strV c.item, .int .i64 c.qty, .slice A n m] ∧ Sl encB w A n m c.data := by
  obtain ⟨xs, k, _, _, hl, hxl, hf⟩ := DataW.trod_struct Tryz.underlying39 h
  rw [cells_call] at hl
  obtain ⟨v0, v1, v2, v3, v4, v5, rfl⟩ := list6 hl
  match xs, hxl with
  | [y0, y1, y2, y3, y4, y5], _ =>
    have g0 := hf 0 _ rfl
    have g1 := hf 1 _ rfl
    have g2 := hf 2 _ rfl
    have g3 := hf 3 _ rfl
    have g4 := hf 4 _ rfl
    have g5 := hf 5 _ rfl
    simp [cells_int, cells_str, cells_bytes, cells_opk] at g0 g1 g2 g3 g4 g5
    obtain ⟨o, e0, _⟩ := DataW.trod_int Tryz.underlying37 g0
    obtain ⟨l1, rfl⟩ := open_str g1
    obtain ⟨l2, rfl⟩ := open_str g2
    obtain ⟨l3, rfl⟩ := open_str g3
    obtain ⟨q, e4, _⟩ := DataW.trod_int Tryz.underlying3 g4
    obtain ⟨A, n, m, l, rfl, hs⟩ := read_bytes g5
    simp at e0 e4
    subst e0; subst e4
    exact ⟨⟨o, l1, l2, l3, q, l⟩, A, n, m, rfl, hs⟩
theorem open_ans {fuel : Nat} {cs : List Value} {x : DataW H × List MemPlace} (h : DataW.trod enc Tryz.prog w base (fun _ => true) held fuel 52 cs = some x) :
    ∃ (a : AnsS) (A : Option Addr) (n c : Nat) (B : Option Addr) (m d : Nat), cs = [.int .i64 a.op, .int .i64 a.err, .int .i64 a.count, .slice A n c, .slice B m d] ∧ Sl encL w A n c a.lines ∧ BSl w B m d a.batches := by
  obtain ⟨xs, k, _, _, hl, hxl, hf⟩ := DataW.trod_struct Tryz.underlying52 h
  rw [cells_ans] at hl
  obtain ⟨v0, v1, v2, v3, v4, rfl⟩ := list5 hl
  match xs, hxl with
  | [y0, y1, y2, y3, y4], _ =>
    have g0 := hf 0 _ rfl
    have g1 := hf 1 _ rfl
    have g2 := hf 2 _ rfl
    have g3 := hf 3 _ rfl
    have g4 := hf 4 _ rfl
    simp [cells_int, cells_opk, cells_errno, cells_lines, cells_batches] at g0 g1 g2 g3 g4
    obtain ⟨o, e0, _⟩ := DataW.trod_int Tryz.underlying37 g0
    obtain ⟨e, e1, _⟩ := DataW.trod_int Tryz.underlying25 g1
    obtain ⟨q, e2, _⟩ := DataW.trod_int Tryz.underlying3 g2
    obtain ⟨A, n, c, l, rfl, h3⟩ := read_lines g3
    obtain ⟨B, m, d, k, rfl, h4⟩ := read_batches g4
    simp at e0 e1 e2
    subst e0; subst e1; subst e2
    exact ⟨⟨o, e, q, l, k⟩, A, n, c, B, m, d, rfl, h3, h4⟩
theorem list8 {α : Type} {cs : List α} (h : cs.length = 8) : ∃ a b t, cs = a :: b :: t ∧ t.length = 6 := by
  match cs, h with
  | a :: b :: t, h => exact ⟨a, b, t, rfl, by simpa using h⟩
theorem list18 {α : Type} {cs : List α} (h : cs.length = 18) : ∃ a b c d e f g t u, cs = a :: b :: c :: d :: e :: f :: g :: (t ++ u) ∧ t.length = 6 ∧ u.length = 5 := by
  match cs, h with
  | a :: b :: c :: d :: e :: f :: g :: t, h =>
    have h9 : t.length = 11 := by simpa using h
    exact ⟨a, b, c, d, e, f, g, t.take 6, t.drop 6, by rw [List.take_append_drop], by simp [h9], by simp [h9]⟩
set_option maxRecDepth 100000 in
theorem read_op {r : Reach} {b0 : Nat} {v : Value} {d : DataW H} {p : List MemPlace} (hv : Value.okWide Tryz.prog w r b0 41 v) (h : DataW.Trod enc Tryz.prog w base (fun _ => true) held 41 v d p) :
    ∃ (o : OpS) (A : Option Addr) (n m : Nat), v = opV o A n m ∧ Sl encB w A n m o.call.data := by
  obtain ⟨⟨cs⟩, rfl, hsz⟩ := okWide_struct Tryz.underlying41 hv
  rw [cells_op] at hsz
  obtain ⟨v0, v1, t, rfl, ht⟩ := list8 (show cs.length = 8 from hsz)
  obtain ⟨fuel, hf⟩ := h
  obtain ⟨xs, k, _, _, hl, hxl, hf⟩ := DataW.trod_struct Tryz.underlying41 hf
  match xs, hxl with
  | [y0, y1, y2], _ =>
    have g0 := hf 0 _ rfl
    have g1 := hf 1 _ rfl
    have g2 := hf 2 _ rfl
    simp [cells_int, cells_kind, cells_call, Value.cells] at g0 g1 g2
    rw [List.take_of_length_le (by omega)] at g2
    obtain ⟨a, e0, _⟩ := DataW.trod_int Tryz.underlying36 g0
    obtain ⟨b, e1, _⟩ := DataW.trod_int Tryz.underlying3 g1
    obtain ⟨c, A, n, m, rfl, hs⟩ := open_call g2
    simp at e0 e1
    subst e0; subst e1
    exact ⟨⟨a, b, c⟩, A, n, m, rfl, hs⟩
set_option maxRecDepth 100000 in
theorem read_did {r : Reach} {b0 : Nat} {v : Value} {d : DataW H} {p : List MemPlace} (hv : Value.okWide Tryz.prog w r b0 54 v) (h : DataW.Trod enc Tryz.prog w base (fun _ => true) held 54 v d p) :
    ∃ (x : DidS) (q : DidAt), v = didV x q ∧ DidIn w x q := by
  obtain ⟨⟨cs⟩, rfl, hsz⟩ := okWide_struct Tryz.underlying54 hv
  rw [cells_did] at hsz
  obtain ⟨v0, v1, v2, v3, v4, v5, v6, t, u, rfl, ht, hu⟩ := list18 (show cs.length = 18 from hsz)
  obtain ⟨fuel, hf⟩ := h
  obtain ⟨xs, k, _, _, hl, hxl, hf⟩ := DataW.trod_struct Tryz.underlying54 hf
  match xs, hxl with
  | [y0, y1, y2, y3, y4, y5, y6, y7, y8], _ =>
    have g0 := hf 0 _ rfl
    have g1 := hf 1 _ rfl
    have g2 := hf 2 _ rfl
    have g3 := hf 3 _ rfl
    have g4 := hf 4 _ rfl
    have g5 := hf 5 _ rfl
    have g6 := hf 6 _ rfl
    have g7 : DataW.trod enc Tryz.prog w base (fun _ => true) held k 39 (((v0 :: v1 :: v2 :: v3 :: v4 :: v5 :: v6 :: (t ++ u)).drop 7).take (Tryz.prog.cellsOf 39)) = some y7 := hf 7 _ rfl
    have g8 : DataW.trod enc Tryz.prog w base (fun _ => true) held k 52 (((v0 :: v1 :: v2 :: v3 :: v4 :: v5 :: v6 :: (t ++ u)).drop 13).take (Tryz.prog.cellsOf 52)) = some y8 := hf 8 _ rfl
    simp [cells_int, cells_step, cells_bool, cells_ints, Value.cells] at g0 g1 g2 g3 g4 g5 g6
    rw [cells_call] at g7
    rw [cells_ans] at g8
    have e7 : (((v0 :: v1 :: v2 :: v3 :: v4 :: v5 :: v6 :: (t ++ u)).drop 7).take 6) = t := by simp [ht]
    have e8 : (((v0 :: v1 :: v2 :: v3 :: v4 :: v5 :: v6 :: (t ++ u)).drop 13).take 5) = u := by
      simp only [List.drop_succ_cons]
      rw [List.drop_append_of_le_length (by omega), List.drop_of_length_le (by omega), List.nil_append, List.take_of_length_le (by omega)]
    rw [e7] at g7
    rw [e8] at g8
    obtain ⟨a0, e0, _⟩ := DataW.trod_int Tryz.underlying3 g0
    obtain ⟨a1, e1, _⟩ := DataW.trod_int Tryz.underlying47 g1
    obtain ⟨a2, e2, _⟩ := DataW.trod_int Tryz.underlying3 g2
    obtain ⟨a3, e3, _⟩ := DataW.trod_bool Tryz.underlying4 g3
    obtain ⟨a4, e4, _⟩ := DataW.trod_int Tryz.underlying3 g4
    obtain ⟨VA, vn, vc, vl, rfl, hvs⟩ := read_ints g5
    obtain ⟨a6, e6, _⟩ := DataW.trod_bool Tryz.underlying4 g6
    obtain ⟨c, A, n, m, rfl, hs⟩ := open_call g7
    obtain ⟨an, LA, ln, lc, BA, bn, bc, rfl, hls, hbs⟩ := open_ans g8
    simp at e0 e1 e2 e3 e4 e6
    subst e0; subst e1; subst e2; subst e3; subst e4; subst e6
    exact ⟨⟨a0, a1, a2, a3, a4, vl, a6, c, an⟩, ⟨VA, vn, vc, A, n, m, LA, ln, lc, BA, bn, bc⟩, rfl, ⟨hvs, hs, hls, hbs⟩⟩
end
end Go.Proofs.YthoacbdoogpaiaaGreatDoor

/-
  ScriptEquals: of any operations and things done, with no condition, the law returns true, and its arguments read afterwards as before.
-/
namespace Go.Proofs.YthoacbdoogpaiaaGreatDoor
open Go.ChangeShapes Go.WideShapes Go.ChangeAt Go.RowKit Go.Deep Go.Joins

set_option maxRecDepth 100000 in
theorem scriptEquals_lifted (os : Os) (started : os.Started) (H : Type) (enc : TypeId × Value → H) :
    ReturnsInHanded {} Tryz.checked os 6 .any (fun w args => (Rows.scriptEqualsSpec.pre enc Tryz.prog Tryz.f6 Rows.scriptEqualsRow.domain false w args ∧ laidMetH Tryz.prog Rows.scriptEqualsRow.laid w) ∧ sizedMet enc Tryz.prog Tryz.f6 (OpenSpec.ofChange Rows.scriptEqualsSpec) false w args)
      (Rows.scriptEqualsSpec.post enc Tryz.prog Tryz.f6 false true false false) := by
  refine returnsInHanded_of_change_and (C := Tryz.checked) (X := fun w _ => laidMetH Tryz.prog Rows.scriptEqualsRow.laid w) (fun _ _ _ hh h => h.of_heap hh) own_none started (by kernel_rfl) Tryz.func6
    (ChangeSpec.witness_shaped (enc := enc) (C := Tryz.checked) (os := os) (X := fun w _ => laidMetH Tryz.prog Rows.scriptEqualsRow.laid w) false (World.laidAll Tryz.prog os Rows.scriptEqualsRow.laid) #[.agg #[.int .i64 0, .int .i64 0, .int .i64 0, .string .empty, .string .empty, .string .empty, .int .i64 0, .slice none 0 0], .agg #[.int .i64 0, .int .i64 0, .int .i64 0, .string .empty, .string .empty, .string .empty, .int .i64 0, .slice none 0 0],
      .agg #[.int .i64 0, .int .i64 0, .int .i64 0, .bool false, .int .i64 0, .slice none 0 0, .bool false, .int .i64 0, .string .empty, .string .empty, .string .empty, .int .i64 0, .slice none 0 0, .int .i64 0, .int .i64 0, .int .i64 0, .slice none 0 0, .slice none 0 0],
      .agg #[.int .i64 0, .int .i64 0, .int .i64 0, .bool false, .int .i64 0, .slice none 0 0, .bool false, .int .i64 0, .string .empty, .string .empty, .string .empty, .int .i64 0, .slice none 0 0, .int .i64 0, .int .i64 0, .int .i64 0, .slice none 0 0, .slice none 0 0]] 8 (World.laidAll_os _ _ _)
      (World.shaped_of_ZipB (by kernel_rfl) (by kernel_rfl)) (by kernel_rfl) (by kernel_rfl) (by kernel_rfl)
      (by rw [MakeChecks.laidMetH_plain _ _ _ (by kernel_rfl)]; exact laidMet_laidAll _ (by kernel_rfl) (by kernel_rfl))) ?_
  intro W base args ds gs before hval0 hW hcnd _ hL _
  have hval : ∀ (j : Nat) t v, Tryz.f6.params[j]? = some t → args[j]? = some v → Value.okWide Tryz.prog W .any base t v := hval0
  have hW' := hW
  obtain ⟨p, q, hA0, hV, rfl, hfz, hnd⟩ := hW
  have hA : DataW.TrodAll enc Tryz.prog W 0 (fun _ => true) true Tryz.f6.params.toList args.toList ds p := hA0
  rw [Tryz.params6] at hA hval
  obtain ⟨v0, v1, v2, v3, d0, d1, d2, d3, p0, p1, p2, p3, rfl, rfl, rfl, h0, h1, h2, h3⟩ := trodAll_four hA
  obtain ⟨rfl, rfl⟩ := trodVars_none hV
  obtain ⟨a, A, n, c, rfl, ha⟩ := read_op (hval 0 41 v0 rfl rfl) h0
  obtain ⟨b, B, m, d, rfl, hb⟩ := read_op (hval 1 41 v1 rfl rfl) h1
  obtain ⟨x, px, rfl, hx⟩ := read_did (hval 2 54 v2 rfl rfl) h2
  obtain ⟨y, py, rfl, hy⟩ := read_did (hval 3 54 v3 rfl rfl) h3
  clear hA0 hval0
  refine (lawEquals a b x y A n c B m d px py W ha hb hx hy).mono fun e W' ⟨_, he, hb, rfl⟩ => ?_
  subst he
  exact ⟨_, rfl, law_post laid_out (by kernel_rfl) (by kernel_rfl) Tryz.underlying4 rfl rfl hW' hb⟩

theorem scriptEquals_holds : Rows.ScriptEqualsSaid :=
  OpenClaim.holds_of_wide 6 Tryz.f6 rfl rfl rfl rfl rfl rfl rfl ⟨rfl, rfl, rfl, rfl, rfl⟩ rfl rfl rfl rfl rfl (by kernel_rfl) Tryz.func6 (by kernel_rfl)
    (of_decide_eq_true (by kernel_rfl)) (by unfold Func.isWrapper; first | (rw [if_pos (by decide +kernel)]; kernel_rfl) | (rw [if_neg (by decide +kernel)]; exact ⟨rfl, rfl⟩))
    (fun os started H enc _ => scriptEquals_lifted os started H enc)
theorem scriptEquals_card : Rows.ScriptEqualsCardSaid :=
  Claim7.holds_tied_plain_at .later [] [.data, .pinned] true (true, "59cb0538238bafcc178ad197a0469a45513811f3b5784f8c5716238753605942") true scriptEquals_holds (fun _ h => by cases h) (by kernel_rfl) (fun _ h => by cases h) scriptEquals_row_tie rfl ⟨rfl, rfl⟩ (by kernel_rfl) rfl
    (fun f fn hf hfn => by
      obtain rfl : f = 6 := Option.some.inj ((show Tryz.prog.funcNamed Tryz.f6.name = some 6 by kernel_rfl).symm.trans hf) |>.symm
      obtain rfl : fn = Tryz.f6 := (Option.some.inj (Tryz.func6.symm.trans hfn)).symm
      exact ⟨by kernel_rfl, fun j t ht => by
        rw [Tryz.params6] at ht
        have hm : t ∈ [41, 41, 54, 54] := by simpa using Array.mem_of_getElem? ht
        have hall : ([41, 41, 54, 54].all fun u => !Tryz.prog.wantsStandIn u) = true := by kernel_rfl
        exact (show Tryz.prog.wantsStandIn t = false by simpa using List.all_eq_true.1 hall t hm)⟩)
    (by kernel_rfl)
end Go.Proofs.YthoacbdoogpaiaaGreatDoor
