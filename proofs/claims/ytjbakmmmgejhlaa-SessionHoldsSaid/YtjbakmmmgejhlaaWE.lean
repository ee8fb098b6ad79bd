/-
  The reference's Raise, Union and Missing.
-/
import Derived.Test.YtjbakmmmgejhlaaWD
namespace Go.Proofs.Ytjbakmmmgejhlaa
open Go.RowKit

def raiseGo (d : Dot) : Bool → List Dot → List Dot
  | done, [] => if done then [] else [d]
  | done, a :: t => (if !done && decide (d.1 ≤ a.1) then [d] else []) ++ ((if a.1 != d.1 then [a] else []) ++ raiseGo d (done || decide (d.1 ≤ a.1)) t)
def raiseV (v : List Dot) (d : Dot) : List Dot := if hasV v d then v else raiseGo d false v

def RaiseRel (w : World) (B n : Nat) (v : List Dot) (d : Dot) (o dn i : Value) (wr : World) : Prop :=
  ∃ (k : Nat) (b : Bool) (acc : List Dot), i = .int .i64 k ∧ dn = .bool b ∧ k ≤ n ∧ Below w.heap.size w wr ∧ Row wr B o acc ∧ acc.length ≤ 2 * k ∧ raiseGo d false v = acc ++ raiseGo d b (v.drop k)

theorem Dots.one (w : World) (x y : Int) : Dots (w.alloc (.cells #[.int .i64 x, .int .i64 y] 27)) (some ⟨w.heap.size, 0, none⟩) 1 1 [(x, y)] :=
  ⟨rfl, Nat.le_refl _, by unfold maxLen; omega, (fun e => nomatch e), fun j e hj => by
    have : j = 0 := by have := (List.getElem?_eq_some_iff.1 hj).1; simpa using this
    subst this
    simp at hj; subst hj
    exact ⟨w.heap.size, 0, rfl, by simp, by simp [go_sem], by simp [go_sem]⟩⟩


/-- The dots, if there are any, lie in a block of which p is true. -/
def Off (p : Nat → Prop) (A : Option Addr) (l : List Dot) : Prop := l ≠ [] → ∀ a, A = some a → p a.block
def IsDotsO (p : Nat → Prop) (l : List Dot) (w : World) (v : Value) : Prop := ∃ A n c, v = .slice A n c ∧ Dots w A n c l ∧ Off p A l
theorem IsDotsO.dots {p : Nat → Prop} {l : List Dot} {w : World} {v : Value} (h : IsDotsO p l w v) : IsDots l w v := let ⟨A, n, c, e, h, _⟩ := h; ⟨A, n, c, e, h⟩
theorem Row.offs {w : World} {B : Nat} {p : Nat → Prop} {v : Value} {l : List Dot} (h : Row w B v l) (hp : ∀ b, B ≤ b → p b) : IsDotsO p l w v := by
  obtain ⟨A, c, rfl, hd⟩ := Row.dots h
  exact ⟨A, _, c, rfl, hd, fun _ a ha => hp _ (Row.from_ h a ha)⟩
theorem Dots.lt {w : World} {A : Option Addr} {n c : Nat} {l : List Dot} (h : Dots w A n c l) (hl : l ≠ []) : ∀ a, A = some a → a.block < w.heap.size := by
  intro a ha
  cases l with
  | nil => exact absurd rfl hl
  | cons d t =>
    obtain ⟨b, o, e, hb, _⟩ := h.cell 0 d rfl
    rw [ha] at e; cases e; exact hb
theorem Dots.off {w : World} {A : Option Addr} {n c : Nat} {p : Nat → Prop} {l : List Dot} (h : Dots w A n c l) (hp : ∀ b, b < w.heap.size → p b) : Off p A l := fun hl a ha => hp _ (h.lt hl a ha)
theorem Off.imp {A : Option Addr} {p q : Nat → Prop} {l : List Dot} (h : Off p A l) (hp : ∀ b, p b → q b) : Off q A l := fun hl a ha => hp _ (h hl a ha)
theorem Dots.grownO {w w1 : World} {A : Option Addr} {n c : Nat} {l : List Dot} {row : Option Nat} (h : Dots w A n c l) (hg : w.grownBy w1 row) (hne : Off (fun b => some b ≠ row) A l) : Dots w1 A n c l := by
  by_cases hl : l = []
  · subst hl; exact ⟨h.len, h.cap, h.max, h.nil, fun i d hi => by simp at hi⟩
  · exact Dots.grown h hg (hne hl)
theorem Dots.setO {w : World} {A : Option Addr} {n c N o : Nat} {l : List Dot} (h : Dots w A n c l) (hne : Off (· ≠ N) A l) (u : Value) : Dots (w.setCell ⟨N, o, none⟩ u) A n c l := by
  by_cases hl : l = []
  · subst hl; exact ⟨h.len, h.cap, h.max, h.nil, fun i d hi => by simp at hi⟩
  · exact Dots.set_ h (p := ⟨N, o, none⟩) (hne hl) u

end Go.Proofs.Ytjbakmmmgejhlaa

/-
  The reference's Union and Missing.
-/
namespace Go.Proofs.Ytjbakmmmgejhlaa
open Go.RowKit

def unionD (a b : List Dot) : List Dot := b.foldl withD (a.foldl withD [])
def missC (c : Ctx) (l : List Dot) : List Dot := l.foldl (fun acc d => if hasC c d then acc else withD acc d) []
theorem withD_length (s : List Dot) (d : Dot) : (withD s d).length ≤ s.length + 1 := by
  unfold withD; split
  · omega
  · have := cutD_le d s
    simp [List.length_take, List.length_drop]; omega

/-- A round of a fold: a slice that reads as dots. -/
def FoldRel (f : List Dot → Dot → List Dot) (w : World) (n B : Nat) (l s0 : List Dot) (o i : Value) (wr : World) : Prop :=
  ∃ (k : Nat) (A : Option Addr) (m c : Nat) (acc : List Dot), i = .int .i64 k ∧ k ≤ n ∧ o = .slice A m c ∧ Below w.heap.size w wr ∧ Dots wr A m c acc ∧ acc.length ≤ B + k ∧ l.foldl f s0 = (l.drop k).foldl f acc

end Go.Proofs.Ytjbakmmmgejhlaa

/-
  The reference's Compact: the pass over the cloud.
-/
namespace Go.Proofs.Ytjbakmmmgejhlaa
open Go.RowKit

def stepC (s : Ctx) (d : Dot) : Ctx := if hasV s.1 d then s else if d.2 == getV s.1 d.1 + 1 then (raiseV s.1 d, s.2) else (s.1, s.2 ++ [d])
def passC (c : Ctx) : Ctx := c.2.foldl stepC (c.1, [])
def compactC (c : Ctx) : Ctx := if compC c then c else passC c

theorem raiseGo_true (d : Dot) : ∀ l : List Dot, raiseGo d true l = l.filter (fun a => a.1 != d.1)
  | [] => rfl
  | a :: t => by
    rw [raiseGo, List.filter_cons]
    simp only [Bool.not_true, Bool.false_and, Bool.true_or, raiseGo_true d t]
    by_cases h : a.1 = d.1 <;> simp [h]
theorem raiseGo_false (d a : Dot) (t : List Dot) : raiseGo d false (a :: t) = if d.1 ≤ a.1 then d :: (a :: t).filter (fun a => a.1 != d.1) else a :: raiseGo d false t := by
  rw [raiseGo]
  by_cases h : d.1 ≤ a.1
  · simp only [h, decide_true, Bool.not_false, Bool.and_true, if_true, Bool.or_true, raiseGo_true, List.filter_cons]
    by_cases h2 : a.1 = d.1 <;> simp [h2]
  · have h2 : a.1 ≠ d.1 := by omega
    simp [h, h2]
theorem raiseGo_length (d : Dot) : ∀ l : List Dot, (raiseGo d false l).length ≤ l.length + 1
  | [] => by simp [raiseGo]
  | a :: t => by
    rw [raiseGo_false]
    have := raiseGo_length d t
    have h2 := List.length_filter_le (fun a : Dot => a.1 != d.1) (a :: t)
    split
    · simp only [List.length_cons] at *; omega
    · simp only [List.length_cons]; omega
theorem raiseV_length (l : List Dot) (d : Dot) : (raiseV l d).length ≤ l.length + 1 := by
  unfold raiseV; split
  · omega
  · exact raiseGo_length d l
theorem raiseGo_valid (d : Dot) (hd : validD d = true) : ∀ l : List Dot, validL l = true → validL (raiseGo d false l) = true
  | [], _ => by simp [raiseGo, validL, hd]
  | a :: t, h => by
    have h' := h
    unfold validL at h
    rw [List.all_eq_true] at h
    rw [raiseGo_false]
    split
    · unfold validL
      rw [List.all_eq_true]
      intro x hx
      rcases List.mem_cons.1 hx with rfl | hx
      · exact hd
      · exact h x ((List.mem_filter.1 hx).1)
    · have ih := raiseGo_valid d hd t (by unfold validL; rw [List.all_eq_true]; exact fun x hx => h x (List.mem_cons_of_mem _ hx))
      unfold validL at ih ⊢
      rw [List.all_cons, ih, h a List.mem_cons_self]; rfl
theorem raiseV_validL (d : Dot) (hd : validD d = true) (l : List Dot) (h : validL l = true) : validL (raiseV l d) = true := by
  unfold raiseV; split
  · exact h
  · exact raiseGo_valid d hd l h
theorem getV_wrap {v : List Dot} (h : validL v = true) (r : Int) : IntKind.i64.wrap (getV v r + 1) = getV v r + 1 := by
  have := getV_bd v r h
  exact IntWalk.i64_in _ (by omega)

/-- A round of the pass. -/
def PassRel (p : Nat → Prop) (w : World) (m L : Nat) (s0 : Ctx) (l : List Dot) (o v i : Value) (wr : World) : Prop :=
  ∃ (k : Nat) (A : Option Addr) (n c : Nat) (s : Ctx), i = .int .i64 k ∧ k ≤ m ∧ v = .slice A n c ∧ Below w.heap.size w wr ∧ Dots wr A n c s.1 ∧ Off (fun b => p b ∧ o.ownBlock ≠ some b) A s.1 ∧ Row wr w.heap.size o s.2 ∧ s.1.length ≤ L + k ∧ s.2.length ≤ k ∧ validL s.1 = true ∧ l.foldl stepC s0 = (l.drop k).foldl stepC s
def notYet (v : Value) : Nat := match v with | .int _ _ => 0 | _ => 1
/-- Neither of the two boxes. -/
def Far (N b : Nat) : Prop := b ≠ N ∧ b ≠ N + 1
/-- A round of the outer loop. -/
def OutRel (w : World) (c : Ctx) (i : Value) (wr : World) : Prop :=
  ∃ (A B : Option Addr) (n ca m cb : Nat) (c' : Ctx), Below w.heap.size w wr ∧ w.heap.size + 1 < wr.heap.size ∧ wr.cell? ⟨w.heap.size, 0, none⟩ = some (.slice A n ca) ∧ wr.cell? ⟨w.heap.size, 1, none⟩ = some (.slice B m cb) ∧
    (∃ u, wr.cell? ⟨w.heap.size + 1, 0, none⟩ = some u) ∧ (∃ u, wr.cell? ⟨w.heap.size + 1, 1, none⟩ = some u) ∧ (∀ o, wr.frozen? ⟨w.heap.size, o, none⟩ = false) ∧ (∀ o, wr.frozen? ⟨w.heap.size + 1, o, none⟩ = false) ∧
    Con wr A n ca B m cb c' ∧ Off (Far w.heap.size) A c'.1 ∧ Off (Far w.heap.size) B c'.2 ∧ ((i = undef ∧ c' = c) ∨ (∃ k : Int, i = .int .i64 k) ∧ c' = passC c ∧ compC c = false)

end Go.Proofs.Ytjbakmmmgejhlaa

/-
  The reference's Size and Add.
-/
namespace Go.Proofs.Ytjbakmmmgejhlaa
open Go.RowKit

def addU (s : Int) (d : Dot) : Int := IntKind.u64.wrap (s + IntKind.u64.wrap d.2)
def oneU (v : List Dot) (s : Int) (d : Dot) : Int := if hasV v d then s else IntKind.u64.wrap (s + 1)
def sizeR (c : Ctx) : Int := c.2.foldl (oneU c.1) (c.1.foldl addU 0)

def SumRel (f : Int → Dot → Int) (w : World) (n : Nat) (l : List Dot) (s0 : Int) (o i : Value) (wr : World) : Prop :=
  ∃ (k : Nat) (s : Int), i = .int .i64 k ∧ k ≤ n ∧ o = .int .u64 s ∧ Below w.heap.size w wr ∧ l.foldl f s0 = (l.drop k).foldl f s

section
variable {ops : List Oper} {Fs : List VT} {w0 : World} {a0 : Act} {i : Nat} {d : Option Tmp} {ty : TypeId} {pos : String} {after : Array Edge} {g : Option (Nat × Bool)}
theorem Ob.mkConD {x y : Operand} {A : Option Addr} {n ca : Nat} {l k : List Dot} (hw : Wanted ops Fs w0 a0 i ⟨d, .build 31 #[(0, x), (1, y)], ty, pos, after, g⟩) (hx : Has ops Fs w0 a0 i ⟨d, .build 31 #[(0, x), (1, y)], ty, pos, after, g⟩ x (Is (.slice A n ca))) (hy : Has ops Fs w0 a0 i ⟨d, .build 31 #[(0, x), (1, y)], ty, pos, after, g⟩ y (IsDots k))
    (h : ∀ w, Below w0.heap.size w0 w → Dots w A n ca l) : Ob Try.prog ops Fs w0 a0 i ⟨d, .build 31 #[(0, x), (1, y)], ty, pos, after, g⟩ (IsCon (l, k)) :=
  Ob.stay hw fun a w cx => by
    have e1 : a.eval x = .slice A n ca := hx a w cx
    obtain ⟨B, m, cb, e2, d2⟩ := hy a w cx
    refine ⟨.agg #[.slice A n ca, .slice B m cb], ?_, A, n, ca, B, m, cb, rfl, h w cx.le, d2⟩
    generalize a.eval = ρ at e1 e2
    simp [execOp, e1, e2, go_sem]
end
/-- No integer lies in a block. -/
def NoInt (w : World) (N : Nat) : Prop := ∀ o x, w.cell? ⟨N, o, none⟩ ≠ some (.int .i64 x)
theorem NoInt.mono {w w' : World} {N : Nat} (h : NoInt w N) (hb : Below w.heap.size w w') (hN : N < w.heap.size) : NoInt w' N := fun o x e => h o x ((hb.cell (p := ⟨N, o, none⟩) hN).symm.trans e)
theorem NoInt.box (w : World) (A B : Option Addr) (n ca m cb : Nat) : NoInt (w.alloc (conBox A n ca B m cb)) w.heap.size := by
  intro o x h
  match o with
  | 0 => simp [go_sem] at h
  | 1 => simp [go_sem] at h
  | o + 2 =>
    have e := heap_alloc_new w (conBox A n ca B m cb)
    unfold World.cell? at h
    simp only [e] at h
    simp at h
theorem NoInt.box2 (w : World) (A B C D : Option Addr) (n ca m cb k ck j cj : Nat) : NoInt ((w.alloc (conBox A n ca B m cb)).alloc (conBox C k ck D j cj)) (w.heap.size + 1) := by
  have := NoInt.box (w.alloc (conBox A n ca B m cb)) C D k ck j cj
  simpa using this
theorem Dots.noInt {w : World} {A : Option Addr} {n c N : Nat} {l : List Dot} (h : Dots w A n c l) (hN : NoInt w N) : Off (· ≠ N) A l := by
  intro hl a ha e
  cases l with
  | nil => exact hl rfl
  | cons d t =>
    obtain ⟨b, o, e', _, h1, _⟩ := h.cell 0 d rfl
    rw [ha] at e'; cases e'
    simp only at e; subst e
    exact hN _ _ h1
def addC (c : Ctx) (l : List Dot) : Ctx := compactC (c.1, unionD c.2 l)
theorem foldWith_length : ∀ (b a : List Dot), (b.foldl withD a).length ≤ a.length + b.length
  | [], a => Nat.le_refl _
  | d :: t, a => by
    have := foldWith_length t (withD a d)
    have := withD_length a d
    simp only [List.foldl_cons, List.length_cons]; omega
theorem unionD_length (a b : List Dot) : (unionD a b).length ≤ a.length + b.length := by
  unfold unionD
  have := foldWith_length b (a.foldl withD [])
  have := foldWith_length a []
  simp at *; omega

end Go.Proofs.Ytjbakmmmgejhlaa
