/-
  The statements' helper: judges.
-/
import Derived.Test.YtjbakmmmgejhlaaWQ
import Derived.Test.YtjbakmmmgejhlaaWN
namespace Go.Proofs.Ytjbakmmmgejhlaa
open Go.RowKit

set_option maxRecDepth 100000 in
set_option maxHeartbeats 1000000 in
theorem ljudges (i g e at_ broken no asked : Int) (A : Option Addr) (n c : Nat) (w : World)
    (f : Calls Try.prog 30 #[.slice A n c, .int .i64 asked] w (Ret w (IsThree i g e))) (r : Bool) (hr : (i == at_ && g == broken && e == no) = r) :
    Calls Try.prog 11 #[.slice A n c, .int .i64 asked, .int .i64 at_, .int .i64 broken, .int .i64 no] w (Ret w (IsB r)) := by
  have F := Lib.hid f
  have HR := Lib.hid hr
  clear f hr
  cases h1 : (i == at_) with
  | false =>
    go_enter Try.func11, Try.ntmps11
    go_wp2_with fail
    refine F.out.mono ?_
    rintro _ w1 ⟨_, rfl, hb1, rfl⟩
    have HB1 := Lib.hid hb1
    clear hb1 F
    go_wp2
    go_ret
    exact retB (by rw [← HR.out]; simp [h1]) HB1.out
  | true =>
    cases h2 : (g == broken) with
    | false =>
      go_enter Try.func11, Try.ntmps11
      go_wp2_with fail
      refine F.out.mono ?_
      rintro _ w1 ⟨_, rfl, hb1, rfl⟩
      have HB1 := Lib.hid hb1
      clear hb1 F
      go_wp2
      go_ret
      exact retB (by rw [← HR.out]; simp [h1, h2]) HB1.out
    | true =>
      go_enter Try.func11, Try.ntmps11
      go_wp2_with fail
      refine F.out.mono ?_
      rintro _ w1 ⟨_, rfl, hb1, rfl⟩
      have HB1 := Lib.hid hb1
      clear hb1 F
      go_wp2
      go_ret
      exact retB (by rw [← HR.out]; simp [h1, h2]) HB1.out
/-- Whatever Judge finds. -/
theorem judgesI (A : Option Addr) (n c : Nat) (l : List Vis) (asked : Int) (w : World) (h : Visits w A n c l) (hn : n ≤ 1000) (ha : 0 ≤ asked ∧ asked ≤ 15) (hb : l.any badS = false) (hf : Fits l) (hs : ∀ v ∈ l, v.x.1.length + v.x.2.length ≤ 1000) (hw : ∀ v ∈ l, (Lit.int .i64 v.c).wf = true) (i g : Int) (e : judgeS asked [] l = (i, g)) :
    Calls Try.prog 11 #[.slice A n c, .int .i64 asked, .int .i64 i, .int .i64 g, .int .i64 0] w (Ret w (IsB true)) := by
  refine ljudges (judgeS asked [] l).1 (judgeS asked [] l).2 0 i g 0 asked A n c w (sjudge A n c l asked w h hn ha hb hf hs hw) true ?_
  rw [e]; simp
theorem judgesNo (A : Option Addr) (n c : Nat) (l : List Vis) (asked : Int) (w : World) (h : Visits w A n c l) (hn : n ≤ 1000) (hw : (Lit.int .i64 asked).wf = true) (hno : (0 ≤ asked ∧ asked ≤ 15) → l.any badS = true) :
    Calls Try.prog 11 #[.slice A n c, .int .i64 asked, .int .i64 0, .int .i64 0, .int .i64 2] w (Ret w (IsB true)) :=
  ljudges 0 0 2 0 0 2 asked A n c w (sjudgeArg A n c l asked w h hn hw hno) true rfl
theorem judgesLong (A : Option Addr) (n c : Nat) (asked : Int) (w : World) (hn : 1000 < n) (hb : n ≤ 9223372036854775807) :
    Calls Try.prog 11 #[.slice A n c, .int .i64 asked, .int .i64 0, .int .i64 0, .int .i64 5] w (Ret w (IsB true)) :=
  ljudges 0 0 5 0 0 5 asked A n c w (sjudgeLong A n c asked w hn hb) true rfl
theorem entJudges : Enters Try.prog 11 := enters_of Try.func11 (by kernel_rfl) rfl
end Go.Proofs.Ytjbakmmmgejhlaa

/-
  The statements' helpers on a session in the heap; what stays along writes to its block.
-/
namespace Go.Proofs.Ytjbakmmmgejhlaa
open Go.RowKit

/-- All but the session's block may not change. -/
def holeR (N : Nat) : Steps where
  I := fun w => NoInt w N ∧ N < w.heap.size
  S := fun w w' => Hole N w w' ∧ NoInt w' N ∧ N < w'.heap.size
  refl := fun h => ⟨Hole.of (Below.refl _ _), h⟩
  trans := fun h k => ⟨h.1.trans k.1, k.2⟩
  inv := fun _ h => h.2
  below := fun h hb => ⟨Hole.of hb, h.1.mono hb h.2, Nat.lt_of_lt_of_le h.2 hb.size⟩
instance (N : Nat) (c : Ctx) : Stays (holeR N) (IsCon c) := ⟨fun hI hS ⟨A, n, ca, B, m, cb, e, h⟩ => ⟨A, n, ca, B, m, cb, e, h.hole hI.1 hS.1⟩⟩
instance (N : Nat) (l : List Dot) : Stays (holeR N) (IsDots l) := ⟨fun hI hS ⟨A, n, c, e, h⟩ => ⟨A, n, c, e, h.hole hI.1 hS.1⟩⟩
theorem Boxed.hole {N M n ca m cb : Nat} {A B : Option Addr} {c : Ctx} {w w' : World} (h : Boxed M A B n ca m cb c w) (ni : NoInt w N) (hh : Hole N w w') (hn : M ≠ N) : Boxed M A B n ca m cb c w' :=
  ⟨hh.keep (p := ⟨M, _, none⟩) hn h.c0, hh.keep (p := ⟨M, _, none⟩) hn h.c1, h.con.hole ni hh⟩
section
variable {ops : List Oper} {Fs : List VT} {w0 : World} {a0 : Act} {i : Nat} {d : Option Tmp} {ty : TypeId} {pos : String} {after : Array Edge} {g : Option (Nat × Bool)}
theorem Ob.mkConV {x : Operand} {l : List Dot} (hw : Wanted ops Fs w0 a0 i ⟨d, .build 31 #[(0, x)], ty, pos, after, g⟩) (hx : Has ops Fs w0 a0 i ⟨d, .build 31 #[(0, x)], ty, pos, after, g⟩ x (IsDots l)) :
    Ob Try.prog ops Fs w0 a0 i ⟨d, .build 31 #[(0, x)], ty, pos, after, g⟩ (IsCon (l, [])) :=
  Ob.stay hw fun a w cx => by
    obtain ⟨A, n, c, h1, h2⟩ := hx a w cx
    refine ⟨.agg #[.slice A n c, .slice none 0 0], ?_, A, n, c, none, 0, 0, rfl, h2, Dots.nil_⟩
    generalize a.eval = ρ at h1
    simp [execOp, h1, go_sem]
end
theorem entReads : Enters Try.prog 17 := enters_of Try.func17 (by kernel_rfl) rfl
theorem entWrites : Enters Try.prog 19 := enters_of Try.func19 (by kernel_rfl) rfl
theorem entSafe : Enters Try.prog 24 := enters_of Try.func24 (by kernel_rfl) rfl
theorem entWrote : Enters Try.prog 22 := enters_of Try.func22 (by kernel_rfl) rfl
theorem entSHas : Enters Try.prog 21 := enters_of Try.func21 (by kernel_rfl) rfl
theorem entOne : Enters Try.prog 13 := enters_of Try.func13 (by kernel_rfl) rfl

/-! ### reads, writes, safe -/
/-- A session in its state. -/
abbrev SessOk (N : Nat) (s : St) (w : World) : Prop := SessAt N s.1 s.2 w
theorem kreads {N : Nat} {s : St} {x : Ctx} {w : World} {A B : Option Addr} {n ca m cb : Nat} (hs : SessOk N s w) (ok : OkS s) (hc : Con w A n ca B m cb x) (lx : x.1.length + x.2.length ≤ 1000) (vx : validC x = true) (g : Int) (hg : winS s.2 x 1 + winS s.1 x 2 = g) (s' : St) (hs' : (unionC s.1 x, s.2) = s') :
    Calls Try.prog 17 #[.pointer (some ⟨N, 0, none⟩), .agg #[.slice A n ca, .slice B m cb], .int .i64 g, .int .i64 0] w (fun en w' => en = .returned (.bool true) ∧ Hole N w w' ∧ SessOk N s' w') := by
  subst hg; subst hs'
  have hb : Below w.heap.size w (w.alloc (conBox A n ca B m cb)) := (Below.refl _ _).alloc (Nat.le_refl _) _
  refine (lreads (fun w' => Hole N w w' ∧ SessOk N (unionC s.1 x, s.2) w') (.pointer (some ⟨N, 0, none⟩)) (winS s.2 x 1 + winS s.1 x 2) 0 (winS s.2 x 1 + winS s.1 x 2) 0 A B n ca m cb w ?_).mono (by rintro _ _ ⟨rfl, h⟩; exact ⟨by simp, h⟩)
  exact (sread N A B n ca m cb s.1 s.2 x _ (hs.mono hb) (hc.mono hb) ok.l1 ok.l2 lx ok.v1 ok.v2 vx).mono (by rintro _ _ ⟨rfl, h1, h2⟩; exact ⟨rfl, (Hole.of hb).trans h1, h2⟩)
theorem kwrites {N : Nat} {s : St} {x : Ctx} {p q : Int} {w : World} {A B : Option Addr} {n ca m cb : Nat} (hs : SessOk N s w) (ok : OkS s) (hc : Con w A n ca B m cb x) (lx : x.1.length + x.2.length ≤ 1000) (vx : validC x = true) (vd : validD (p, q) = true) (hn : hasC x (p, q) = false) (g : Int) (hg : winS s.1 x 4 + winS s.2 x 8 = g) (s' : St) (hs' : (s.1, addC s.2 [(p, q)]) = s') :
    Calls Try.prog 19 #[.pointer (some ⟨N, 0, none⟩), .agg #[.slice A n ca, .slice B m cb], .agg #[.int .i64 p, .int .i64 q], .int .i64 g, .int .i64 0] w (fun en w' => en = .returned (.bool true) ∧ Hole N w w' ∧ SessOk N s' w') := by
  subst hg; subst hs'
  have hb : Below w.heap.size w ((w.alloc (conBox A n ca B m cb)).alloc (.cells #[.int .i64 p, .int .i64 q] 27)) := by go_grown
  refine (lwrites (fun w' => Hole N w w' ∧ SessOk N (s.1, addC s.2 [(p, q)]) w') p q (.pointer (some ⟨N, 0, none⟩)) (winS s.1 x 4 + winS s.2 x 8) 0 (winS s.1 x 4 + winS s.2 x 8) 0 A B n ca m cb w ?_).mono (by rintro _ _ ⟨rfl, h⟩; exact ⟨by simp, h⟩)
  exact (swrite p q N A B n ca m cb s.1 s.2 x _ (hs.mono hb) (hc.mono hb) ok.l1 ok.l2 lx ok.v1 ok.v2 vx vd hn).mono (by rintro _ _ ⟨rfl, h1, h2⟩; exact ⟨rfl, (Hole.of hb).trans h1, h2⟩)
theorem krefused {N : Nat} {x : Ctx} {p q : Int} {w : World} {A B : Option Addr} {n ca m cb : Nat} (hc : Con w A n ca B m cb x) (hno : (validC x && validD (p, q) && !hasC x (p, q)) = false) :
    Calls Try.prog 19 #[.pointer (some ⟨N, 0, none⟩), .agg #[.slice A n ca, .slice B m cb], .agg #[.int .i64 p, .int .i64 q], .int .i64 0, .int .i64 2] w (Ret w (IsB true)) := by
  have hb : Below w.heap.size w ((w.alloc (conBox A n ca B m cb)).alloc (.cells #[.int .i64 p, .int .i64 q] 27)) := by go_grown
  refine (lwrites (fun w' => Below w.heap.size w w') p q (.pointer (some ⟨N, 0, none⟩)) 0 2 0 2 A B n ca m cb w ?_).mono (by rintro _ _ ⟨rfl, h⟩; exact ⟨_, rfl, h, by simp [Is]⟩)
  exact (snoWrite p q N A B n ca m cb x _ (hc.mono hb) hno).mono (by rintro _ _ ⟨_, rfl, h1, rfl⟩; exact ⟨rfl, hb.le h1⟩)
theorem krefusedR {N : Nat} {x : Ctx} {w : World} {A B : Option Addr} {n ca m cb : Nat} (hc : Con w A n ca B m cb x) (hno : validC x = false) :
    Calls Try.prog 17 #[.pointer (some ⟨N, 0, none⟩), .agg #[.slice A n ca, .slice B m cb], .int .i64 0, .int .i64 2] w (Ret w (IsB true)) := by
  have hb : Below w.heap.size w (w.alloc (conBox A n ca B m cb)) := (Below.refl _ _).alloc (Nat.le_refl _) _
  refine (lreads (fun w' => Below w.heap.size w w') (.pointer (some ⟨N, 0, none⟩)) 0 2 0 2 A B n ca m cb w ?_).mono (by rintro _ _ ⟨rfl, h⟩; exact ⟨_, rfl, h, by simp [Is]⟩)
  exact (snoRead N A B n ca m cb x _ (hc.mono hb) hno).mono (by rintro _ _ ⟨_, rfl, h1, rfl⟩; exact ⟨rfl, hb.le h1⟩)
theorem ksafe {N : Nat} {s : St} {x : Ctx} {w : World} {A B : Option Addr} {n ca m cb : Nat} (hs : SessOk N s w) (ok : OkS s) (hc : Con w A n ca B m cb x) (lx : x.1.length + x.2.length ≤ 1000) (vx : validC x = true) (g : Int) (hg : 15 - (winS s.2 x 9 + winS s.1 x 6) = g) :
    Calls Try.prog 24 #[.pointer (some ⟨N, 0, none⟩), .agg #[.slice A n ca, .slice B m cb], .int .i64 g, .int .i64 0] w (Ret w (IsB true)) := by
  subst hg
  have hb : Below w.heap.size w (w.alloc (conBox A n ca B m cb)) := (Below.refl _ _).alloc (Nat.le_refl _) _
  refine (lsafe (.pointer (some ⟨N, 0, none⟩)) _ 0 (15 - (winS s.2 x 9 + winS s.1 x 6)) 0 A B n ca m cb w (ssafe N A B n ca m cb s.1 s.2 x _ (hs.mono hb) (hc.mono hb) ok.l1 ok.l2 lx ok.v1 ok.v2 vx)).mono (by rintro _ _ ⟨_, rfl, h, rfl⟩; exact ⟨_, rfl, h, by simp [Is]⟩)
theorem krefusedS {N : Nat} {x : Ctx} {w : World} {A B : Option Addr} {n ca m cb : Nat} (hc : Con w A n ca B m cb x) (hno : validC x = false) :
    Calls Try.prog 24 #[.pointer (some ⟨N, 0, none⟩), .agg #[.slice A n ca, .slice B m cb], .int .i64 0, .int .i64 2] w (Ret w (IsB true)) := by
  have hb : Below w.heap.size w (w.alloc (conBox A n ca B m cb)) := (Below.refl _ _).alloc (Nat.le_refl _) _
  refine (lsafe (.pointer (some ⟨N, 0, none⟩)) 0 2 0 2 A B n ca m cb w (snoSafe N A B n ca m cb x _ (hc.mono hb) hno)).mono (by rintro _ _ ⟨_, rfl, h, rfl⟩; exact ⟨_, rfl, h, by simp [Is]⟩)
end Go.Proofs.Ytjbakmmmgejhlaa

/-
  The statements' helper: known.
-/
namespace Go.Proofs.Ytjbakmmmgejhlaa
open Go.RowKit

/-- What 'known' has in memory. -/
structure KW (w : World) (bA bB bO bD bE N : Nat) (A1 B1 A2 B2 : Option Addr) (n1 c1 m1 d1 n2 c2 m2 d2 : Nat) (s : St) (W : World) : Prop where
  hb : Below w.heap.size w W
  ba : Boxed bA A1 B1 n1 c1 m1 d1 ([(1, 1)], []) W
  bb : Boxed bB A2 B2 n2 c2 m2 d2 ([(2, 1)], []) W
  bo : Boxed bO none none 0 0 0 0 ([], []) W
  d0 : W.cell? ⟨bD, 0, none⟩ = some (.int .i64 1)
  d1' : W.cell? ⟨bD, 1, none⟩ = some (.int .i64 1)
  e0 : W.cell? ⟨bE, 0, none⟩ = some (.int .i64 1)
  e1 : W.cell? ⟨bE, 1, none⟩ = some (.int .i64 2)
  ss : SessOk N s W
  na : bA ≠ N
  nb : bB ≠ N
  no : bO ≠ N
  wN : w.heap.size ≤ N
section
variable {w W W' : World} {bA bB bO bD bE N : Nat} {A1 B1 A2 B2 : Option Addr} {n1 c1 m1 d1 n2 c2 m2 d2 : Nat} {s s' : St}
theorem KW.mono (h : KW w bA bB bO bD bE N A1 B1 A2 B2 n1 c1 m1 d1 n2 c2 m2 d2 s W) (b : Below W.heap.size W W') : KW w bA bB bO bD bE N A1 B1 A2 B2 n1 c1 m1 d1 n2 c2 m2 d2 s W' :=
  ⟨h.hb.le b, h.ba.mono b, h.bb.mono b, h.bo.mono b, cellKeep b h.d0, cellKeep b h.d1', cellKeep b h.e0, cellKeep b h.e1, h.ss.mono b, h.na, h.nb, h.no, h.wN⟩
theorem KW.step (h : KW w bA bB bO bD bE N A1 B1 A2 B2 n1 c1 m1 d1 n2 c2 m2 d2 s W) (b : Hole N W W') (hs : SessOk N s' W') : KW w bA bB bO bD bE N A1 B1 A2 B2 n1 c1 m1 d1 n2 c2 m2 d2 s' W' :=
  have ni := h.ss.ni
  ⟨h.hb.hole b h.wN h.hb.size, h.ba.hole ni b h.na, h.bb.hole ni b h.nb, h.bo.hole ni b h.no, b.int ni h.d0, b.int ni h.d1', b.int ni h.e0, b.int ni h.e1, hs, h.na, h.nb, h.no, h.wN⟩
end
def kA : Ctx := ([(1, 1)], [])
def kB : Ctx := ([(2, 1)], [])
def kO : Ctx := ([], [])
def s1 : St := (([], []), ([(1, 1)], []))
def s3 : St := (([(1, 1)], []), ([(1, 1)], []))
def s4 : St := (([(1, 1), (2, 1)], []), ([(1, 1)], []))
def s5 : St := (([(1, 1), (2, 1)], []), ([(1, 2)], []))
theorem okk1 : OkS s1 := ⟨by kernel_rfl, by kernel_rfl, by simp [s1], by simp [s1]⟩
theorem okk3 : OkS s3 := ⟨by kernel_rfl, by kernel_rfl, by simp [s3], by simp [s3]⟩
theorem okk4 : OkS s4 := ⟨by kernel_rfl, by kernel_rfl, by simp [s4], by simp [s4]⟩
theorem okk5 : OkS s5 := ⟨by kernel_rfl, by kernel_rfl, by simp [s5], by simp [s5]⟩
theorem kw1 : (winS st0.1 ([], []) 4 + winS st0.2 ([], []) 8 = 0) ∧ (st0.1, addC st0.2 [(1, 1)]) = s1 := ⟨by kernel_rfl, by kernel_rfl⟩
theorem kr2 : (winS s1.2 ([], []) 1 + winS s1.1 ([], []) 2 = 1) ∧ (unionC s1.1 ([], []), s1.2) = s1 := ⟨by kernel_rfl, by kernel_rfl⟩
theorem kr3 : (winS s1.2 ([(1, 1)], []) 1 + winS s1.1 ([(1, 1)], []) 2 = 0) ∧ (unionC s1.1 ([(1, 1)], []), s1.2) = s3 := ⟨by kernel_rfl, by kernel_rfl⟩
theorem kr4 : (winS s3.2 ([(2, 1)], []) 1 + winS s3.1 ([(2, 1)], []) 2 = 3) ∧ (unionC s3.1 ([(2, 1)], []), s3.2) = s4 := ⟨by kernel_rfl, by kernel_rfl⟩
theorem ks4 : 15 - (winS s4.2 ([(1, 1)], []) 9 + winS s4.1 ([(1, 1)], []) 6) = 9 := by kernel_rfl
theorem kw5 : (winS s4.1 ([(2, 1)], []) 4 + winS s4.2 ([(2, 1)], []) 8 = 12) ∧ (s4.1, addC s4.2 [(1, 2)]) = s5 := ⟨by kernel_rfl, by kernel_rfl⟩
def kL : List Vis := [⟨5, false, (0, 0), ([(1, 1)], [])⟩, ⟨6, false, (0, 0), ([], [])⟩, ⟨5, false, (0, 0), ([], [])⟩]
theorem kj1 : judgeS 15 [] kL = (2, 2) := by kernel_rfl
theorem kj2 : judgeS 1 [] kL = (-1, 0) := by kernel_rfl
theorem kbad : kL.any badS = false := by kernel_rfl
theorem kfits : Fits kL := by
  intro k c
  have h1 : OkS (unionC ([], []) ([(1, 1)], []), ([], [])) := ⟨by kernel_rfl, by kernel_rfl, by decide +kernel, by decide +kernel⟩
  have h2 : OkS (unionC (unionC ([], []) ([(1, 1)], [])) ([], []), ([], [])) := ⟨by kernel_rfl, by kernel_rfl, by decide +kernel, by decide +kernel⟩
  have h3 : OkS (unionC ([], []) ([], []), ([], [])) := ⟨by kernel_rfl, by kernel_rfl, by decide +kernel, by decide +kernel⟩
  have e : (5 : Int) = c ∨ (6 : Int) = c ∨ ((5 : Int) ≠ c ∧ (6 : Int) ≠ c) := by omega
  match k with
  | 0 => exact ok0
  | 1 => rcases e with rfl | rfl | ⟨e1, e2⟩ <;> simp [stOf, kL, stepS, st0, *] <;> first | exact h1 | exact ok0
  | 2 => rcases e with rfl | rfl | ⟨e1, e2⟩ <;> simp [stOf, kL, stepS, st0, *] <;> first | exact h1 | exact h3 | exact ok0
  | k + 3 =>
    rw [List.take_of_length_le (by simp [kL])]
    rcases e with rfl | rfl | ⟨e1, e2⟩ <;> simp [stOf, kL, stepS, st0, *] <;> first | exact h2 | exact h3 | exact ok0

theorem refS {N : Nat} {s : St} {x : Ctx} {p q : Int} {w : World} (hs : SessOk N s w) (hno : (validC x && validD (p, q) && !hasC x (p, q)) = false) (v1 v2 v3 v4 v5 : Value) (h1 : Is (.pointer (some ⟨N, 0, none⟩)) w v1) (h2 : IsCon x w v2) (h3 : IsDot (p, q) w v3) (h4 : IsI 0 w v4) (h5 : IsI 2 w v5) :
    Calls Try.prog 19 #[v1, v2, v3, v4, v5] w (fun e w' => ∃ v, e = .returned v ∧ (holeR N).S w w' ∧ SessOk N s w' ∧ IsB true w' v) := by
  cases h1; cases h3; cases h4; cases h5
  obtain ⟨A, n, ca, B, m, cb, rfl, hc⟩ := h2
  refine (krefused hc hno).mono ?_
  rintro _ w' ⟨_, rfl, hb, rfl⟩
  have h6 := hs.mono hb
  exact ⟨_, rfl, ⟨Hole.of hb, h6.ni, h6.size⟩, h6, rfl⟩
theorem wriS {N : Nat} {s : St} {x : Ctx} {p q : Int} {w : World} (hs : SessOk N s w) (ok : OkS s) (lx : x.1.length + x.2.length ≤ 1000) (vx : validC x = true) (vd : validD (p, q) = true) (hn : hasC x (p, q) = false) (g : Int) (hg : winS s.1 x 4 + winS s.2 x 8 = g) (s' : St) (hs' : (s.1, addC s.2 [(p, q)]) = s')
    (v1 v2 v3 v4 v5 : Value) (h1 : Is (.pointer (some ⟨N, 0, none⟩)) w v1) (h2 : IsCon x w v2) (h3 : IsDot (p, q) w v3) (h4 : IsI g w v4) (h5 : IsI 0 w v5) :
    Calls Try.prog 19 #[v1, v2, v3, v4, v5] w (fun e w' => ∃ v, e = .returned v ∧ (holeR N).S w w' ∧ SessOk N s' w' ∧ IsB true w' v) := by
  cases h1; cases h3; cases h4; cases h5
  obtain ⟨A, n, ca, B, m, cb, rfl, hc⟩ := h2
  refine (kwrites hs ok hc lx vx vd hn g hg s' hs').mono ?_
  rintro _ w' ⟨rfl, hh, h6⟩
  exact ⟨_, rfl, ⟨hh, h6.ni, h6.size⟩, h6, rfl⟩
theorem hasS {N : Nat} {s : St} {w : World} (hs : SessOk N s w) (ok : OkS s) (v1 : Value) (h1 : Is (.pointer (some ⟨N, 0, none⟩)) w v1) :
    Calls Try.prog 21 #[v1] w (fun e w' => ∃ v, e = .returned v ∧ (holeR N).S w w' ∧ SessOk N s w' ∧ IsCon s.1 w' v) := by
  cases h1
  refine (sHas N s.1 s.2 w hs ok.l1).mono ?_
  rintro _ w' ⟨v, rfl, hb, hv⟩
  have h6 := hs.mono hb
  exact ⟨_, rfl, ⟨Hole.of hb, h6.ni, h6.size⟩, h6, hv.con⟩
theorem wrotS {N : Nat} {s : St} {w : World} (hs : SessOk N s w) (ok : OkS s) (v1 : Value) (h1 : Is (.pointer (some ⟨N, 0, none⟩)) w v1) :
    Calls Try.prog 22 #[v1] w (fun e w' => ∃ v, e = .returned v ∧ (holeR N).S w w' ∧ SessOk N s w' ∧ IsCon s.2 w' v) := by
  cases h1
  refine (sWrote N s.1 s.2 w hs ok.l2).mono ?_
  rintro _ w' ⟨v, rfl, hb, hv⟩
  have h6 := hs.mono hb
  exact ⟨_, rfl, ⟨Hole.of hb, h6.ni, h6.size⟩, h6, hv.con⟩
def phiK (N : Nat) (k : Nat) (w : World) : Prop := SessOk N (if k ≤ 1 then s4 else s5) w
theorem visits_k {w : World} {b : Nat} {A1 B1 : Option Addr} {n1 c1 m1 d1 : Nat} (hb : b = w.heap.size) (hc : Con w A1 n1 c1 B1 m1 d1 kA) :
    Visits (w.alloc (.cells #[.int .i64 5, .bool false, .int .i64 0, .int .i64 0, .slice A1 n1 c1, .slice B1 m1 d1, .int .i64 6, .bool false, .int .i64 0, .int .i64 0, .slice none 0 0, .slice none 0 0, .int .i64 5, .bool false, .int .i64 0, .int .i64 0, .slice none 0 0, .slice none 0 0] 33)) (some ⟨b, 0, none⟩) 3 3 kL := by
  subst hb
  have hb1 : Below w.heap.size w (w.alloc (.cells #[.int .i64 5, .bool false, .int .i64 0, .int .i64 0, .slice A1 n1 c1, .slice B1 m1 d1, .int .i64 6, .bool false, .int .i64 0, .int .i64 0, .slice none 0 0, .slice none 0 0, .int .i64 5, .bool false, .int .i64 0, .int .i64 0, .slice none 0 0, .slice none 0 0] 33)) := (Below.refl _ _).alloc (Nat.le_refl _) _
  refine ⟨rfl, Nat.le_refl _, by unfold maxLen; omega, fun e => (nomatch e), fun i v hi => ?_⟩
  match i, hi with
  | 0, hi => cases hi; exact ⟨w.heap.size, 0, A1, n1, c1, B1, m1, d1, rfl, by simp [go_sem], by simp [go_sem], by simp [go_sem], by simp [go_sem], by simp [go_sem], by simp [go_sem], hc.mono hb1⟩
  | 1, hi => cases hi; exact ⟨w.heap.size, 0, none, 0, 0, none, 0, 0, rfl, by simp [go_sem], by simp [go_sem], by simp [go_sem], by simp [go_sem], by simp [go_sem], by simp [go_sem], Dots.nil_, Dots.nil_⟩
  | 2, hi => cases hi; exact ⟨w.heap.size, 0, none, 0, 0, none, 0, 0, rfl, by simp [go_sem], by simp [go_sem], by simp [go_sem], by simp [go_sem], by simp [go_sem], by simp [go_sem], Dots.nil_, Dots.nil_⟩
  | i + 3, hi => simp [kL] at hi
set_option maxRecDepth 100000 in
set_option maxHeartbeats 4000000 in
theorem known43 (w : World) : Calls Try.prog 8 #[] w (Ret w (IsB true)) := by
  go_enter Try.func8, Try.ntmps8
  go_wp2_with fail
  refine (sOne 1 w).mono ?_
  rintro _ w1 ⟨_, rfl, hb1, A1, n1, c1, B1, m1, d1, rfl, hc1⟩
  have HB1 := Lib.hid hb1; have C1 := Lib.hid hc1
  clear hb1 hc1
  go_wp2_with fail
  refine (sOne 2 w1).mono ?_
  rintro _ w2 ⟨_, rfl, hb2, A2, n2, c2, B2, m2, d2, rfl, hc2⟩
  have HB2 := Lib.hid (HB1.out.le hb2); have CA := Lib.hid (C1.out.mono hb2); have CB := Lib.hid hc2
  clear hb2 hc2 HB1 C1
  go_wp2_with fail
  obtain ⟨W, hW⟩ : ∃ W, W = ((((((w2.alloc (.cells #[.slice A1 n1 c1, .slice B1 m1 d1] 31)).alloc (.cells #[.slice A2 n2 c2, .slice B2 m2 d2] 31)).alloc (.cells #[.slice none 0 0, .slice none 0 0] 31)).alloc (.cells #[.int .i64 1, .int .i64 1] 27)).alloc (.cells #[.int .i64 1, .int .i64 2] 27)).alloc (.cells #[.slice none 0 0, .slice none 0 0, .slice none 0 0, .slice none 0 0] 46)) := ⟨_, rfl⟩
  have hb3 : Below w2.heap.size w2 W := by rw [hW]; go_grown
  have hsn := SessAt.new (((((w2.alloc (.cells #[.slice A1 n1 c1, .slice B1 m1 d1] 31)).alloc (.cells #[.slice A2 n2 c2, .slice B2 m2 d2] 31)).alloc (.cells #[.slice none 0 0, .slice none 0 0] 31)).alloc (.cells #[.int .i64 1, .int .i64 1] 27)).alloc (.cells #[.int .i64 1, .int .i64 2] 27))
  have hz5 : (((((w2.alloc (.cells #[.slice A1 n1 c1, .slice B1 m1 d1] 31)).alloc (.cells #[.slice A2 n2 c2, .slice B2 m2 d2] 31)).alloc (.cells #[.slice none 0 0, .slice none 0 0] 31)).alloc (.cells #[.int .i64 1, .int .i64 1] 27)).alloc (.cells #[.int .i64 1, .int .i64 2] 27)).heap.size = w2.heap.size + 1 + 1 + 1 + 1 + 1 := by simp
  rw [hz5, ← hW] at hsn
  have kv : KW w w2.heap.size (w2.heap.size + 1) (w2.heap.size + 1 + 1) (w2.heap.size + 1 + 1 + 1) (w2.heap.size + 1 + 1 + 1 + 1) (w2.heap.size + 1 + 1 + 1 + 1 + 1) A1 B1 A2 B2 n1 c1 m1 d1 n2 c2 m2 d2 st0 W := by
    refine ⟨HB2.out.le hb3, ⟨?_, ?_, CA.out.mono hb3⟩, ⟨?_, ?_, CB.out.mono hb3⟩, ⟨?_, ?_, ⟨Dots.nil_, Dots.nil_⟩⟩, ?_, ?_, ?_, ?_, hsn, by omega, by omega, by omega, by have := HB2.out.size; omega⟩ <;> (rw [hW]; simp [go_sem])
  rw [← hW]
  have KV := Lib.hid kv
  clear kv hsn hz5 hb3 hW CA CB HB2
  generalize w2.heap.size + 1 + 1 + 1 + 1 + 1 = N at *
  generalize w2.heap.size + 1 + 1 + 1 + 1 = bE at *
  generalize w2.heap.size + 1 + 1 + 1 = bD at *
  generalize w2.heap.size + 1 + 1 = bO at *
  generalize w2.heap.size + 1 = bB at *
  generalize w2.heap.size = bA at *
  have x0 := KV.out.ba.c0; have x1 := KV.out.ba.c1; have x2 := KV.out.bb.c0; have x3 := KV.out.bb.c1
  refine (kwrites KV.out.ss ok0 KV.out.bo.con (by simp) (by kernel_rfl) (by kernel_rfl) (by kernel_rfl) 0 kw1.1 s1 kw1.2).mono ?_
  rintro _ w9 ⟨rfl, hh9, hs9⟩
  have KK := Lib.hid (KV.out.step hh9 hs9)
  clear KV hh9 hs9
  have KV := KK
  clear KK x0 x1 x2 x3
  have x0 := KV.out.ba.c0; have x1 := KV.out.ba.c1; have x2 := KV.out.bb.c0; have x3 := KV.out.bb.c1; have x4 := KV.out.bo.c0; have x5 := KV.out.bo.c1
  go_wp2_with fail
  refine (kreads KV.out.ss okk1 KV.out.bo.con (by simp) (by kernel_rfl) 1 kr2.1 s1 kr2.2).mono ?_
  rintro _ w9 ⟨rfl, hh9, hs9⟩
  have KK := Lib.hid (KV.out.step hh9 hs9)
  clear KV hh9 hs9
  have KV := KK
  clear KK x0 x1 x2 x3
  have x0 := KV.out.ba.c0; have x1 := KV.out.ba.c1; have x2 := KV.out.bb.c0; have x3 := KV.out.bb.c1; have x4 := KV.out.bo.c0; have x5 := KV.out.bo.c1
  go_wp2_with fail
  refine (kreads KV.out.ss okk1 KV.out.ba.con (by simp) (by kernel_rfl) 0 kr3.1 s3 kr3.2).mono ?_
  rintro _ w9 ⟨rfl, hh9, hs9⟩
  have KK := Lib.hid (KV.out.step hh9 hs9)
  clear KV hh9 hs9
  have KV := KK
  clear KK x0 x1 x2 x3
  have x0 := KV.out.ba.c0; have x1 := KV.out.ba.c1; have x2 := KV.out.bb.c0; have x3 := KV.out.bb.c1; have x4 := KV.out.bo.c0; have x5 := KV.out.bo.c1
  go_wp2_with fail
  refine (kreads KV.out.ss okk3 KV.out.bb.con (by simp) (by kernel_rfl) 3 kr4.1 s4 kr4.2).mono ?_
  rintro _ w9 ⟨rfl, hh9, hs9⟩
  have KK := Lib.hid (KV.out.step hh9 hs9)
  clear KV hh9 hs9
  have KV := KK
  clear KK x0 x1 x2 x3
  have x0 := KV.out.ba.c0; have x1 := KV.out.ba.c1; have x2 := KV.out.bb.c0; have x3 := KV.out.bb.c1; have x4 := KV.out.bo.c0; have x5 := KV.out.bo.c1
  go_wp2_with fail
  refine (ksafe KV.out.ss okk4 KV.out.ba.con (by simp) (by kernel_rfl) 9 ks4).mono ?_
  rintro _ w9 ⟨_, rfl, hb9, rfl⟩
  have KK := Lib.hid (KV.out.mono hb9)
  clear KV hb9 x0 x1 x2 x3 x4 x5
  go_wp2_with fail
  refine wp_region_MS (R := (holeR N)) [3, 9, 14] (phiK N) mixed (by kernel_rfl) (by kernel_rfl) ?_ ?_ ?_ ?_
  · exact fun k w w' _ hb h => SessAt.mono h hb
  · exact ⟨KK.out.ss.ni, KK.out.ss.size⟩
  · exact KK.out.ss
  refine MDerS.step (by kernel_rfl) (fun wS hS hI => Ob.move Wanted.free Has.oldIs) ?_
  refine MDerS.step (by kernel_rfl) (fun wS hS hI => Ob.load (F := IsCon ([(1, 1)], [])) Wanted.free Has.oldIs (fun w1 v hb1 hv => (KK.out.ba.hole KK.out.ss.ni hS.1 KK.out.na).loadI hb1 hv)) ?_
  refine MDerS.step (by kernel_rfl) (fun wS hS hI => Ob.loadV Wanted.free Has.oldIs (fun w1 hb1 => load_dot hb1 (hS.1.int KK.out.ss.ni KK.out.d0) (hS.1.int KK.out.ss.ni KK.out.d1'))) ?_
  refine MDerS.write 0 (by kernel_rfl) (fun wS hS hI hP => ObS.call5 Wanted.free entWrites (Has.new 0 2) (Has.new 1 1) (Has.new 2 0) (Has.cst _) (Has.cst _) (refS hP (by kernel_rfl))) ?_
  refine MDerS.step (by kernel_rfl) (fun wS hS hI => Ob.not Wanted.free (Has.new 3 0)) ?_
  refine MDerS.step (by kernel_rfl) (fun wS hS hI => Ob.move Wanted.free (Has.new 4 0)) ?_
  refine MDerS.step (by kernel_rfl) (fun wS hS hI => Ob.move (Wanted.on 5 0) Has.oldIs) ?_
  refine MDerS.step (by kernel_rfl) (fun wS hS hI => Ob.load (F := IsCon ([(2, 1)], [])) (Wanted.on 5 1) Has.oldIs (fun w1 v hb1 hv => (KK.out.bb.hole KK.out.ss.ni hS.1 KK.out.nb).loadI hb1 hv)) ?_
  refine MDerS.step (by kernel_rfl) (fun wS hS hI => Ob.loadV (Wanted.on 5 2) Has.oldIs (fun w1 hb1 => load_dot hb1 (hS.1.int KK.out.ss.ni KK.out.e0) (hS.1.int KK.out.ss.ni KK.out.e1))) ?_
  refine MDerS.write 1 (by kernel_rfl) (fun wS hS hI hP => ObS.call5 (Wanted.on 5 3) entWrites (Has.new 6 2) (Has.new 7 1) (Has.new 8 0) (Has.cst _) (Has.cst _) (wriS hP okk4 (by simp) (by kernel_rfl) (by kernel_rfl) (by kernel_rfl) 12 kw5.1 s5 kw5.2)) ?_
  refine MDerS.step (by kernel_rfl) (fun wS hS hI => Ob.not (Wanted.on 5 4) (Has.new 9 0)) ?_
  refine MDerS.step (by kernel_rfl) (fun wS hS hI => Ob.pickF Wanted.free (Has.new 5 5) (Has.new 10 0)) ?_
  refine MDerS.step (by kernel_rfl) (fun wS hS hI => Ob.move Wanted.free (Has.new 11 0)) ?_
  refine MDerS.step (by kernel_rfl) (fun wS hS hI => Ob.move (Wanted.on 12 0) Has.oldIs) ?_
  refine MDerS.write 2 (by kernel_rfl) (fun wS hS hI hP => ObS.call1 (Wanted.on 12 1) entWrote (Has.new 13 0) (wrotS hP okk5)) ?_
  refine MDerS.step (by kernel_rfl) (fun wS hS hI => Ob.loadV (Wanted.on 12 2) Has.oldIs (fun w1 hb1 => load_dot hb1 (hS.1.int KK.out.ss.ni KK.out.e0) (hS.1.int KK.out.ss.ni KK.out.e1))) ?_
  refine MDerS.step (by kernel_rfl) (fun wS hS hI => Ob.mkDots129 (Wanted.on 12 3) (Has.new 15 0)) ?_
  refine MDerS.step (by kernel_rfl) (fun wS hS hI => Ob.mkConV (Wanted.on 12 4) (Has.new 16 0)) ?_
  refine MDerS.step (by kernel_rfl) (fun wS hS hI => Ob.call2 (Wanted.on 12 5) entCeq (Has.new 14 3) (Has.new 17 0) (fun w1 u v hb1 (hu : IsCon s5.2 w1 u) (hv : IsCon ([(1, 2)], []) w1 v) => ceqI hu hv true (by kernel_rfl))) ?_
  refine MDerS.step (by kernel_rfl) (fun wS hS hI => Ob.not (Wanted.on 12 6) (Has.new 18 0)) ?_
  refine MDerS.step (by kernel_rfl) (fun wS hS hI => Ob.pickF Wanted.free (Has.new 12 7) (Has.new 19 0)) ?_
  intro wE hE hIE hPE
  change EndM _ [some 44, some 45, some 46, some 47, some 48, some 49, some 50, some 51, some 52, some 53, some 54, some 55, some 56, some 57, some 58, some 59, some 60, some 61, some 62, some 63, some 64] _ _ _
  simp only [EndM, List.reverse_cons, List.reverse_nil, List.nil_append, List.cons_append]
  iterate 1 (rintro _ rfl)
  rintro _ _h1
  iterate 5 (rintro _ rfl)
  rintro _ _h7
  iterate 6 (rintro _ rfl)
  rintro _ _h14
  iterate 1 (rintro _ rfl)
  rintro _ _h16
  rintro _ _h17
  iterate 3 (rintro _ rfl)
  simp only [Act.put, List.setIfInBounds_toArray, List.set_cons_zero, List.set_cons_succ]
  have KV := Lib.hid (KK.out.step hE.1 hPE)
  clear KK hE hPE hIE
  have x0 := KV.out.ba.c0; have x1 := KV.out.ba.c1; have x4 := KV.out.bo.c0; have x5 := KV.out.bo.c1
  have vk := visits_k rfl KV.out.ba.con
  have VK := Lib.hid vk
  clear vk
  go_wp2_with fail
  have hbv : Below w.heap.size w (wE.alloc (.cells #[.int .i64 5, .bool false, .int .i64 0, .int .i64 0, .slice A1 n1 c1, .slice B1 m1 d1, .int .i64 6, .bool false, .int .i64 0, .int .i64 0, .slice none 0 0, .slice none 0 0, .int .i64 5, .bool false, .int .i64 0, .int .i64 0, .slice none 0 0, .slice none 0 0] 33)) := KV.out.hb.alloc KV.out.hb.size _
  have HBV := Lib.hid hbv
  clear hbv x0 x1 x4 x5 KV
  generalize wE.alloc (.cells #[.int .i64 5, .bool false, .int .i64 0, .int .i64 0, .slice A1 n1 c1, .slice B1 m1 d1, .int .i64 6, .bool false, .int .i64 0, .int .i64 0, .slice none 0 0, .slice none 0 0, .int .i64 5, .bool false, .int .i64 0, .int .i64 0, .slice none 0 0, .slice none 0 0] 33) = wV at *
  refine (judgesI _ 3 3 kL 15 wV VK.out (by omega) (by omega) kbad kfits (by decide) (by decide) 2 2 kj1).mono ?_
  rintro _ w5 ⟨_, rfl, hb5, rfl⟩
  have HB5 := Lib.hid (HBV.out.le hb5); have VK5 := Lib.hid (VK.out.mono hb5)
  clear hb5 HBV VK
  go_wp2_with fail
  refine (judgesI _ 3 3 kL 1 w5 VK5.out (by omega) (by omega) kbad kfits (by decide) (by decide) (-1) 0 kj2).mono ?_
  rintro _ w6 ⟨_, rfl, hb6, rfl⟩
  have HB6 := Lib.hid (HB5.out.le hb6)
  clear hb6 HB5 VK5
  go_wp2_with fail
  refine (judgesNo none 0 0 [] 16 w6 Visits.nil_ (by omega) (by decide) (fun h => absurd h.2 (by decide))).mono ?_
  rintro _ w7 ⟨_, rfl, hb7, rfl⟩
  have HB7 := Lib.hid (HB6.out.le hb7)
  clear hb7 HB6
  go_wp2
  go_ret
  exact retB rfl HB7.out
theorem entKnown43 : Enters Try.prog 8 := enters_of Try.func8 (by kernel_rfl) rfl
end Go.Proofs.Ytjbakmmmgejhlaa
