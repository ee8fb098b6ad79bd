/-
  ContextHolds: for any three contexts and any dot, with no further condition, the law returns true, and its arguments read afterwards as they read before.
-/
import Derived.Test.YtdngechnelemlaaWL
import Derived.Test.YtdngechnelemlaaWM
namespace Go.Proofs.Ytdngechnelemlaa
open Go.RowKit

theorem union_len (a b : Ctx) : (unionC a b).1.length ≤ a.1.length + b.1.length + (a.2.length + b.2.length) ∧ (unionC a b).2.length ≤ a.2.length + b.2.length := by
  unfold unionC
  rw [compact_pass]
  obtain ⟨h1, h2⟩ := pass_length (mergeV a.1 b.1, unionD a.2 b.2)
  have h3 := mergeV_length b.1 a.1
  have h4 := unionD_length a.2 b.2
  simp only at h1 h2
  exact ⟨by omega, by omega⟩
theorem union_valid {a b : Ctx} (ha : validC a = true) (hb : validC b = true) : validC (unionC a b) = true := ok_iff.2 (union_spec (ok_iff.1 ha) (ok_iff.1 hb)).1.ok
theorem compR_pass {a : Ctx} (h : validC a = true) : (eqC (compR (passC a)).1 (passC a) && ((compR (passC a)).2 == 0)) = true := by
  have ht := (pass_spec (ok_iff.1 h)).1
  unfold compR
  rw [if_pos (ok_iff.2 ht.ok), pass_tight ht, eqC_self]; rfl
theorem size_two {a : Ctx} (h : validC a = true) : (if validC (passC a) then sizeR (passC a) else 0) = (if validC a then sizeR a else 0) := by
  have ht := (pass_spec (ok_iff.1 h)).1
  rw [if_pos (ok_iff.2 ht.ok), if_pos h, ← size_pass (ok_iff.1 h), ← size_pass ht.ok, pass_tight ht]
theorem uniR_eq {a b d : Ctx} (ha : validC a = true) (hb : validC b = true) (h : unionC a b = d) : (eqC (uniR a b).1 d && ((uniR a b).2 == 0)) = true := by
  unfold uniR
  rw [if_pos (by rw [ha, hb]; rfl), h, eqC_self]; rfl
theorem winR_in {a b : Ctx} (ha : validC a = true) (hb : validC b = true) : ((winR a (unionC a b)).1 == true && ((winR a (unionC a b)).2 == 0)) = true := by
  unfold winR
  rw [if_pos (by rw [ha, union_valid ha hb]; rfl), in_self (ok_iff.1 ha) (ok_iff.1 hb)]; rfl
theorem icompactI {c : Ctx} {w : World} {u : Value} (hu : IsCon c w u) (hl : c.1.length + c.2.length ≤ 1000) (hv : validC c = true) : Calls Try.prog 19 #[u] w (Ret w (IsPair (IsConA w.heap.size (passC c)) 0)) := by
  obtain ⟨A, n, ca, B, m, cb, rfl, hc⟩ := hu
  exact icompact A B n ca m cb c w hc (by have := IsCon.small hc hl; unfold Small; omega) hv
theorem iwithinI {a b : Ctx} {w : World} {u v : Value} (hu : IsCon a w u) (hv : IsCon b w v) (hl : a.1.length + a.2.length ≤ 1000) (hl2 : b.1.length + b.2.length ≤ 1000) (va : validC a = true) (vb : validC b = true) : Calls Try.prog 33 #[u, v] w (Ret w (IsPair (IsB (inC a b)) 0)) := by
  obtain ⟨A, n, ca, B, m, cb, rfl, hc⟩ := hu
  obtain ⟨A2, n2, ca2, B2, m2, cb2, rfl, hd0⟩ := hv
  exact iwithin A B A2 B2 n ca m cb n2 ca2 m2 cb2 a b w hc hd0 (by have := IsCon.small hc hl; have := IsCon.small hd0 hl2; unfold Small; omega) va vb
theorem iunionI {a b : Ctx} {w : World} {u v : Value} (hu : IsCon a w u) (hv : IsCon b w v) (hl : a.1.length + a.2.length ≤ 1000) (hl2 : b.1.length + b.2.length ≤ 1000) (va : validC a = true) (vb : validC b = true) : Calls Try.prog 34 #[u, v] w (Ret w (IsPair (IsConA w.heap.size (unionC a b)) 0)) := by
  obtain ⟨A, n, ca, B, m, cb, rfl, hc⟩ := hu
  obtain ⟨A2, n2, ca2, B2, m2, cb2, rfl, hd0⟩ := hv
  exact iunion A B A2 B2 n ca m cb n2 ca2 m2 cb2 a b w hc hd0 (by have := IsCon.small hc hl; have := IsCon.small hd0 hl2; unfold Small; omega) va vb
/-- A context that lies in a box. -/
structure Boxed (N : Nat) (A B : Option Addr) (n ca m cb : Nat) (c : Ctx) (w : World) : Prop where
  c0 : w.cell? ⟨N, 0, none⟩ = some (.slice A n ca)
  c1 : w.cell? ⟨N, 1, none⟩ = some (.slice B m cb)
  con : Con w A n ca B m cb c
theorem Boxed.mono {N n ca m cb : Nat} {A B : Option Addr} {c : Ctx} {w w' : World} (h : Boxed N A B n ca m cb c w) (hb : Below w.heap.size w w') : Boxed N A B n ca m cb c w' := ⟨cellKeep hb h.c0, cellKeep hb h.c1, h.con.mono hb⟩
theorem Boxed.is {N n ca m cb : Nat} {A B : Option Addr} {c : Ctx} {w : World} (h : Boxed N A B n ca m cb c w) : IsCon c w (.agg #[.slice A n ca, .slice B m cb]) := ⟨A, n, ca, B, m, cb, rfl, h.con⟩
theorem Boxed.load {N n ca m cb : Nat} {A B : Option Addr} {c : Ctx} {w : World} (h : Boxed N A B n ca m cb c w) : (Instr.loadAt 25 (.pointer (some ⟨N, 0, none⟩))).run Try.prog w = .ok (.agg #[.slice A n ca, .slice B m cb]) w := load_con (Below.refl _ _) h.c0 h.c1
theorem Boxed.loadI {N n ca m cb : Nat} {A B : Option Addr} {c : Ctx} {w w' : World} {v : Value} (h : Boxed N A B n ca m cb c w) (hb : Below w.heap.size w w') (hv : Is (.pointer (some ⟨N, 0, none⟩)) w' v) : ∃ r, (Instr.loadAt 25 v).run Try.prog w' = .ok r w' ∧ IsCon c w' r := by
  cases hv
  exact ⟨_, (h.mono hb).load, (h.mono hb).is⟩
theorem Boxed.new {w : World} {A B : Option Addr} {n ca m cb : Nat} {c : Ctx} (h : Con w A n ca B m cb c) : Boxed w.heap.size A B n ca m cb c (w.alloc (conBox A n ca B m cb)) := ⟨by simp [go_sem], by simp [go_sem], h.mono ((Below.refl _ _).alloc (Nat.le_refl _) _)⟩
theorem Boxed.size {N n ca m cb : Nat} {A B : Option Addr} {c : Ctx} {w : World} (h : Boxed N A B n ca m cb c w) : N < w.heap.size := World.block_lt_of_cell? w _ h.c0
end Go.Proofs.Ytdngechnelemlaa

/-
  ContextHolds: for any three contexts and any dot, with no further condition, the law returns true, and its arguments read afterwards as they read before.
-/
namespace Go.Proofs.Ytdngechnelemlaa
open Go.RowKit

set_option maxRecDepth 100000 in
set_option maxHeartbeats 16000000 in
theorem lawHolds (A1 B1 A2 B2 A3 B3 : Option Addr) (n1 ca1 m1 cb1 n2 ca2 m2 cb2 n3 ca3 m3 cb3 : Nat) (a b c : Ctx) (x y : Int) (w : World) (ha : Con w A1 n1 ca1 B1 m1 cb1 a) (hb : Con w A2 n2 ca2 B2 m2 cb2 b) (hc : Con w A3 n3 ca3 B3 m3 cb3 c) :
    Calls Try.prog 7 #[.agg #[.slice A1 n1 ca1, .slice B1 m1 cb1], .agg #[.slice A2 n2 ca2, .slice B2 m2 cb2], .agg #[.slice A3 n3 ca3, .slice B3 m3 cb3], .agg #[.int .i64 x, .int .i64 y]] w (Ret w (IsB true)) := by
  obtain ⟨W, hWdef⟩ : ∃ W, W = (((w.alloc (conBox A1 n1 ca1 B1 m1 cb1)).alloc (conBox A2 n2 ca2 B2 m2 cb2)).alloc (conBox A3 n3 ca3 B3 m3 cb3)).alloc (.cells #[.int .i64 x, .int .i64 y] 38) := ⟨_, rfl⟩
  have hb0 : Below w.heap.size w W := by rw [hWdef]; go_grown
  have ba : Boxed w.heap.size A1 B1 n1 ca1 m1 cb1 a W := ⟨by rw [hWdef]; simp [go_sem], by rw [hWdef]; simp [go_sem], ha.mono hb0⟩
  have bb : Boxed (w.heap.size + 1) A2 B2 n2 ca2 m2 cb2 b W := ⟨by rw [hWdef]; simp [go_sem], by rw [hWdef]; simp [go_sem], hb.mono hb0⟩
  have bc : Boxed (w.heap.size + 2) A3 B3 n3 ca3 m3 cb3 c W := ⟨by rw [hWdef]; simp [go_sem], by rw [hWdef]; simp [go_sem], hc.mono hb0⟩
  have d0 : W.cell? ⟨w.heap.size + 3, 0, none⟩ = some (.int .i64 x) := by rw [hWdef]; simp [go_sem]
  have d1 : W.cell? ⟨w.heap.size + 3, 1, none⟩ = some (.int .i64 y) := by rw [hWdef]; simp [go_sem]
  have DEF := Lib.hid hWdef; have BW := Lib.hid hb0; have BA := Lib.hid ba; have BB := Lib.hid bb; have BC := Lib.hid bc; have D0 := Lib.hid d0; have D1 := Lib.hid d1
  clear hWdef hb0 ba bb bc d0 d1 ha hb hc
  go_enter Try.func7, Try.ntmps7
  go_wp2_with fail
  rw [← DEF.out]
  have g0 := Lib.hid (Below.refl W.heap.size W)
  refine (lightI (BA.out.mono g0.out).is (lightB a) rfl).mono ?_
  rintro _ w1 ⟨_, rfl, hb, rfl⟩
  have g1 := Lib.hid (g0.out.le hb)
  clear hb g0
  cases hlighta : lightB a
  case false =>
    have HBK := Lib.hid (BW.out.le g1.out)
    go_wp2_with fail
    refine (known_ _).mono ?_
    rintro _ w9 ⟨_, rfl, hb9, rfl⟩
    have HB9 := Lib.hid (HBK.out.le hb9)
    clear hb9
    go_wp2
    go_ret
    exact retB rfl HB9.out
  have Hlighta := Lib.hid hlighta; clear hlighta
  have x0 := (BB.out.mono g1.out).c0; have x1 := (BB.out.mono g1.out).c1
  go_wp2_with fail
  refine (lightI (BB.out.mono g1.out).is (lightB b) rfl).mono ?_
  rintro _ w2 ⟨_, rfl, hb, rfl⟩
  have g2 := Lib.hid (g1.out.le hb)
  clear hb g1 x0 x1
  cases hlightb : lightB b
  case false =>
    have HBK := Lib.hid (BW.out.le g2.out)
    go_wp2_with fail
    refine (known_ _).mono ?_
    rintro _ w9 ⟨_, rfl, hb9, rfl⟩
    have HB9 := Lib.hid (HBK.out.le hb9)
    clear hb9
    go_wp2
    go_ret
    exact retB rfl HB9.out
  have Hlightb := Lib.hid hlightb; clear hlightb
  have x0 := (BC.out.mono g2.out).c0; have x1 := (BC.out.mono g2.out).c1
  go_wp2_with fail
  refine (lightI (BC.out.mono g2.out).is (lightB c) rfl).mono ?_
  rintro _ w3 ⟨_, rfl, hb, rfl⟩
  have g3 := Lib.hid (g2.out.le hb)
  clear hb g2 x0 x1
  cases hlightc : lightB c
  case false =>
    have HBK := Lib.hid (BW.out.le g3.out)
    go_wp2_with fail
    refine (known_ _).mono ?_
    rintro _ w9 ⟨_, rfl, hb9, rfl⟩
    have HB9 := Lib.hid (HBK.out.le hb9)
    clear hb9
    go_wp2
    go_ret
    exact retB rfl HB9.out
  have Hlightc := Lib.hid hlightc; clear hlightc
  have x0 := (BA.out.mono g3.out).c0; have x1 := (BA.out.mono g3.out).c1
  go_wp2_with fail
  refine (cvalidI (BA.out.mono g3.out).is (validC a) rfl).mono ?_
  rintro _ w4 ⟨_, rfl, hb, rfl⟩
  have g4 := Lib.hid (g3.out.le hb)
  clear hb g3 x0 x1
  cases hvalida : validC a
  case false =>
    have HBK := Lib.hid (BW.out.le g4.out)
    go_wp2_with fail
    refine (known_ _).mono ?_
    rintro _ w9 ⟨_, rfl, hb9, rfl⟩
    have HB9 := Lib.hid (HBK.out.le hb9)
    clear hb9
    go_wp2
    go_ret
    exact retB rfl HB9.out
  have Hvalida := Lib.hid hvalida; clear hvalida
  have x0 := (BB.out.mono g4.out).c0; have x1 := (BB.out.mono g4.out).c1
  go_wp2_with fail
  refine (cvalidI (BB.out.mono g4.out).is (validC b) rfl).mono ?_
  rintro _ w5 ⟨_, rfl, hb, rfl⟩
  have g5 := Lib.hid (g4.out.le hb)
  clear hb g4 x0 x1
  cases hvalidb : validC b
  case false =>
    have HBK := Lib.hid (BW.out.le g5.out)
    go_wp2_with fail
    refine (known_ _).mono ?_
    rintro _ w9 ⟨_, rfl, hb9, rfl⟩
    have HB9 := Lib.hid (HBK.out.le hb9)
    clear hb9
    go_wp2
    go_ret
    exact retB rfl HB9.out
  have Hvalidb := Lib.hid hvalidb; clear hvalidb
  have x0 := (BC.out.mono g5.out).c0; have x1 := (BC.out.mono g5.out).c1
  go_wp2_with fail
  refine (cvalidI (BC.out.mono g5.out).is (validC c) rfl).mono ?_
  rintro _ w6 ⟨_, rfl, hb, rfl⟩
  have g6 := Lib.hid (g5.out.le hb)
  clear hb g5 x0 x1
  cases hvalidc : validC c
  case false =>
    have HBK := Lib.hid (BW.out.le g6.out)
    go_wp2_with fail
    refine (known_ _).mono ?_
    rintro _ w9 ⟨_, rfl, hb9, rfl⟩
    have HB9 := Lib.hid (HBK.out.le hb9)
    clear hb9
    go_wp2
    go_ret
    exact retB rfl HB9.out
  have Hvalidc := Lib.hid hvalidc; clear hvalidc
  have la : a.1.length + a.2.length ≤ 80 := by have := lightB_len Hlighta.out; omega
  have lb : b.1.length + b.2.length ≤ 80 := by have := lightB_len Hlightb.out; omega
  have lc : c.1.length + c.2.length ≤ 80 := by have := lightB_len Hlightc.out; omega
  have lab : (unionC a b).1.length + (unionC a b).2.length ≤ 320 := by have := union_len a b; omega
  have lbc : (unionC b c).1.length + (unionC b c).2.length ≤ 320 := by have := union_len b c; omega
  have LA := Lib.hid la; have LB := Lib.hid lb; have LC := Lib.hid lc; have LAB := Lib.hid lab; have LBC := Lib.hid lbc
  clear la lb lc lab lbc
  have VA := Hvalida; have VB := Hvalidb; have VC := Hvalidc
  have x0 := (BA.out.mono g6.out).c0; have y0 := (BA.out.mono g6.out).c1
  go_wp2_with fail
  refine (icompactI (c := a) (BA.out.mono g6.out).is (by have := LA.out; omega) Hvalida.out).mono ?_
  rintro _ w7 ⟨_, rfl, hb, _, rfl, Cp, ip, cip, Dp, jp, cjp, rfl, r1, r2, _⟩
  have hal : Below w7.heap.size w7 (w7.alloc (conBox Cp ip cip Dp jp cjp)) := (Below.refl _ _).alloc (Nat.le_refl _) _
  have Bp := Lib.hid (Boxed.new (c := (passC a)) ⟨r1.asDots, r2.asDots⟩ : Boxed w7.heap.size Cp Dp ip cip jp cjp (passC a) (w7.alloc (conBox Cp ip cip Dp jp cjp)))
  have gr7 := Lib.hid (g6.out.le hb)
  have g7 := Lib.hid (gr7.out.le hal)
  have hz7 : w.heap.size + 3 < w7.heap.size := by have h1 := gr7.out.size; have h2 := World.block_lt_of_cell? W _ D0.out; simp only at h2; omega
  clear hal r1 r2 hb x0 y0
  clear g6
  have x0 := (BB.out.mono g7.out).c0; have y0 := (BB.out.mono g7.out).c1
  have xr0 := (BB.out.mono gr7.out).c0; have yr0 := (BB.out.mono gr7.out).c1
  go_wp2_with fail
  refine (icompactI (c := b) (BB.out.mono g7.out).is (by have := LB.out; omega) Hvalidb.out).mono ?_
  rintro _ w8 ⟨_, rfl, hb, _, rfl, Cq, iq, ciq, Dq, jq, cjq, rfl, r1, r2, _⟩
  have hal : Below w8.heap.size w8 (w8.alloc (conBox Cq iq ciq Dq jq cjq)) := (Below.refl _ _).alloc (Nat.le_refl _) _
  have Bq := Lib.hid (Boxed.new (c := (passC b)) ⟨r1.asDots, r2.asDots⟩ : Boxed w8.heap.size Cq Dq iq ciq jq cjq (passC b) (w8.alloc (conBox Cq iq ciq Dq jq cjq)))
  have gr8 := Lib.hid (g7.out.le hb)
  have g8 := Lib.hid (gr8.out.le hal)
  have hz8 : w.heap.size + 3 < w8.heap.size := by have h1 := gr8.out.size; have h2 := World.block_lt_of_cell? W _ D0.out; simp only at h2; omega
  have Bpr := Lib.hid (Bp.out.mono hb); have Bp' := Lib.hid (Bpr.out.mono hal); clear Bp; have Bp := Bp'; clear Bp'
  have hsp := Bpr.out.size
  clear hal r1 r2 hb x0 y0 xr0 yr0
  clear gr7
  clear g7
  have x0 := (BA.out.mono g8.out).c0; have y0 := (BA.out.mono g8.out).c1
  have xr0 := (BA.out.mono gr8.out).c0; have yr0 := (BA.out.mono gr8.out).c1
  have x1 := (BB.out.mono g8.out).c0; have y1 := (BB.out.mono g8.out).c1
  have xr1 := (BB.out.mono gr8.out).c0; have yr1 := (BB.out.mono gr8.out).c1
  go_wp2_with fail
  refine (iwithinI (a := a) (b := b) (BA.out.mono g8.out).is (BB.out.mono g8.out).is (by have := LA.out; omega) (by have := LB.out; omega) Hvalida.out Hvalidb.out).mono ?_
  rintro _ w9 ⟨_, rfl, hb, _, rfl, rfl⟩
  have g9 := Lib.hid (g8.out.le hb)
  have Bp' := Lib.hid (Bp.out.mono hb); clear Bp; have Bp := Bp'; clear Bp'
  have Bq' := Lib.hid (Bq.out.mono hb); clear Bq; have Bq := Bq'; clear Bq'
  clear hb g8 x0 y0 xr0 yr0 x1 y1 xr1 yr1 gr8
  have x0 := (BB.out.mono g9.out).c0; have y0 := (BB.out.mono g9.out).c1
  have x1 := (BA.out.mono g9.out).c0; have y1 := (BA.out.mono g9.out).c1
  go_wp2_with fail
  refine (iwithinI (a := b) (b := a) (BB.out.mono g9.out).is (BA.out.mono g9.out).is (by have := LB.out; omega) (by have := LA.out; omega) Hvalidb.out Hvalida.out).mono ?_
  rintro _ w10 ⟨_, rfl, hb, _, rfl, rfl⟩
  have g10 := Lib.hid (g9.out.le hb)
  have Bp' := Lib.hid (Bp.out.mono hb); clear Bp; have Bp := Bp'; clear Bp'
  have Bq' := Lib.hid (Bq.out.mono hb); clear Bq; have Bq := Bq'; clear Bq'
  clear hb g9 x0 y0 x1 y1 
  go_wp2_with fail
  cases hin : inC a b
  case false =>
    have HIN := Lib.hid hin; clear hin
    have Ga := Lib.hid (BA.out.mono g10.out)
    have E0 := Lib.hid (cellKeep g10.out D0.out); have E1 := Lib.hid (cellKeep g10.out D1.out)
    refine wp_region_M mixed (by kernel_rfl) ?_
    refine MDerR.step (Ob.move Wanted.free Has.oldIs) ?_
    refine MDerR.step (Ob.binV Wanted.free (Has.new 0 0) (Has.cst _) (fun w1 => int_neq false rfl)) ?_
    refine MDerR.step (Ob.move Wanted.free (Has.new 1 0)) ?_
    refine MDerR.step (Ob.move (Wanted.on 2 0) Has.oldIs) ?_
    refine MDerR.step (Ob.binV (Wanted.on 2 1) (Has.new 3 0) (Has.cst _) (fun w1 => int_neq false rfl)) ?_
    refine MDerR.step (Ob.pickF Wanted.free (Has.new 2 2) (Has.new 4 0)) ?_
    refine MDerR.step (Ob.move Wanted.free (Has.new 5 0)) ?_
    refine MDerR.step (Ob.move (Wanted.on 6 0) Has.oldIs) ?_
    refine MDerR.step (Ob.binV (Wanted.on 6 1) (Has.new 7 0) (Has.cst _) (fun w1 => int_neq false rfl)) ?_
    refine MDerR.step (Ob.pickF Wanted.free (Has.new 6 2) (Has.new 8 0)) ?_
    refine MDerR.step (Ob.move Wanted.free (Has.new 9 0)) ?_
    refine MDerR.step (Ob.move (Wanted.on 10 0) Has.oldIs) ?_
    refine MDerR.step (Ob.binV (Wanted.on 10 1) (Has.new 11 0) (Has.cst _) (fun w1 => int_neq false rfl)) ?_
    refine MDerR.step (Ob.pickF Wanted.free (Has.new 10 2) (Has.new 12 0)) ?_
    refine MDerR.step (Ob.move Wanted.free (Has.new 13 0)) ?_
    refine MDerR.step (Ob.load (F := IsCon (passC a)) (Wanted.on 14 0) Has.oldIs (fun w1 v hb1 hv => Bp.out.loadI hb1 hv)) ?_
    refine MDerR.step (Ob.load (F := IsCon (passC b)) (Wanted.on 14 1) Has.oldIs (fun w1 v hb1 hv => Bq.out.loadI hb1 hv)) ?_
    refine MDerR.step (Ob.call2 (Wanted.on 14 2) entRceq (Has.new 15 1) (Has.new 16 0) (fun w1 u v hb1 (hu : IsCon (passC a) w1 u) (hv : IsCon (passC b) w1 v) => rceqI hu hv (false) (by have h := same_iff (ok_iff.1 Hvalida.out) (ok_iff.1 Hvalidb.out); rw [compact_pass, compact_pass, HIN.out, Bool.false_and] at h; exact h))) ?_
    refine MDerR.step (Ob.move (Wanted.on 14 3) Has.oldIs) ?_
    refine MDerR.step (Ob.move (Wanted.on 14 4) (Has.new 18 0)) ?_
    refine MDerR.step (Ob.off 19 0) ?_
    refine MDerR.step (Ob.pickF (Wanted.on 14 6) (Has.new 19 1) (Has.cst _)) ?_
    refine MDerR.step (Ob.binV (Wanted.on 14 7) (Has.new 17 4) (Has.new 21 0) (fun w1 => bool_neq false (by simp))) ?_
    refine MDerR.step (Ob.pickF Wanted.free (Has.new 14 8) (Has.new 22 0)) ?_
    refine MDerR.step (Ob.move Wanted.free (Has.new 23 0)) ?_
    refine MDerR.step (Ob.load (F := IsCon (passC a)) (Wanted.on 24 0) Has.oldIs (fun w1 v hb1 hv => Bp.out.loadI hb1 hv)) ?_
    refine MDerR.step (Ob.call1 (Wanted.on 24 1) entComp (Has.new 25 0) (fun w1 u hb1 (hu : IsCon (passC a) w1 u) => ccompI hu true (pass_comp Hvalida.out))) ?_
    refine MDerR.step (Ob.not (Wanted.on 24 2) (Has.new 26 0)) ?_
    refine MDerR.step (Ob.pickF Wanted.free (Has.new 24 3) (Has.new 27 0)) ?_
    refine MDerR.step (Ob.move Wanted.free (Has.new 28 0)) ?_
    refine MDerR.step (Ob.load (F := IsCon (passC a)) (Wanted.on 29 0) Has.oldIs (fun w1 v hb1 hv => Bp.out.loadI hb1 hv)) ?_
    refine MDerR.step (Ob.load (F := IsCon (passC a)) (Wanted.on 29 1) Has.oldIs (fun w1 v hb1 hv => Bp.out.loadI hb1 hv)) ?_
    refine MDerR.step (Ob.call3 (Wanted.on 29 2) entLcompacts (Has.new 30 1) (Has.new 31 0) (Has.cst _) (fun w1 u v s hb1 (hu : IsCon (passC a) w1 u) (hv : IsCon (passC a) w1 v) (hs : IsI 0 w1 s) => lcompactsI hu hv hs (by have := pass_length a; have := LA.out; omega) true (compR_pass Hvalida.out))) ?_
    refine MDerR.step (Ob.not (Wanted.on 29 3) (Has.new 32 0)) ?_
    refine MDerR.step (Ob.pickF Wanted.free (Has.new 29 4) (Has.new 33 0)) ?_
    refine MDerR.step (Ob.move Wanted.free (Has.new 34 0)) ?_
    refine MDerR.step (Ob.load (F := IsCon (passC a)) (Wanted.on 35 0) Has.oldIs (fun w1 v hb1 hv => Bp.out.loadI hb1 hv)) ?_
    refine MDerR.step (Ob.call1 (Wanted.on 35 1) entSize (Has.new 36 0) (fun w1 u hb1 (hu : IsCon (passC a) w1 u) => isizeI hu (by have := pass_length a; have := LA.out; omega) _ (size_two Hvalida.out))) ?_
    refine MDerR.step (Ob.load (F := IsCon a) (Wanted.on 35 2) Has.oldIs (fun w1 v hb1 hv => Ga.out.loadI hb1 hv)) ?_
    refine MDerR.step (Ob.call1 (Wanted.on 35 3) entSize (Has.new 38 0) (fun w1 u hb1 (hu : IsCon a w1 u) => isizeI hu (by have := LA.out; omega) (if validC a then sizeR a else 0) rfl)) ?_
    refine MDerR.step (Ob.binV (Wanted.on 35 4) (Has.new 37 2) (Has.new 39 0) (fun w1 => int_neq false (by simp))) ?_
    refine MDerR.step (Ob.pickF Wanted.free (Has.new 35 5) (Has.new 40 0)) ?_
    simp only [MDerR, dstsOf, List.map, EndM, List.reverse_cons, List.reverse_nil, List.nil_append, List.cons_append]
    intro wE hE
    iterate 15 (rintro _ rfl)
    rintro _ _h15
    rintro _ _h16
    iterate 8 (rintro _ rfl)
    rintro _ _h25
    iterate 4 (rintro _ rfl)
    rintro _ _h30
    rintro _ _h31
    iterate 4 (rintro _ rfl)
    rintro _ _h36
    iterate 1 (rintro _ rfl)
    rintro _ _h38
    iterate 3 (rintro _ rfl)
    simp only [Act.put, List.setIfInBounds_toArray, List.set_cons_zero, List.set_cons_succ]
    have g11 := Lib.hid (g10.out.le hE)
    have Bp' := Lib.hid (Bp.out.mono hE); clear Bp; have Bp := Bp'; clear Bp'
    have Bq' := Lib.hid (Bq.out.mono hE); clear Bq; have Bq := Bq'; clear Bq'
    clear g10 E0 E1 Ga
    generalize wE = w11 at *
    clear hE
    have x0 := (BA.out.mono g11.out).c0; have y0 := (BA.out.mono g11.out).c1
    have x1 := (BB.out.mono g11.out).c0; have y1 := (BB.out.mono g11.out).c1
    go_wp2_with fail
    refine (iunionI (a := a) (b := b) (BA.out.mono g11.out).is (BB.out.mono g11.out).is (by have := LA.out; omega) (by have := LB.out; omega) Hvalida.out Hvalidb.out).mono ?_
    rintro _ w12 ⟨_, rfl, hb, _, rfl, Cu, iu, ciu, Du, ju, cju, rfl, r1, r2, _⟩
    have hal : Below w12.heap.size w12 (w12.alloc (conBox Cu iu ciu Du ju cju)) := (Below.refl _ _).alloc (Nat.le_refl _) _
    have Bu := Lib.hid (Boxed.new (c := (unionC a b)) ⟨r1.asDots, r2.asDots⟩ : Boxed w12.heap.size Cu Du iu ciu ju cju (unionC a b) (w12.alloc (conBox Cu iu ciu Du ju cju)))
    have gr12 := Lib.hid (g11.out.le hb)
    have g12 := Lib.hid (gr12.out.le hal)
    have hz12 : w.heap.size + 3 < w12.heap.size := by have h1 := gr12.out.size; have h2 := World.block_lt_of_cell? W _ D0.out; simp only at h2; omega
    have Bpr := Lib.hid (Bp.out.mono hb); have Bp' := Lib.hid (Bpr.out.mono hal); clear Bp; have Bp := Bp'; clear Bp'
    have hsp := Bpr.out.size
    have Bqr := Lib.hid (Bq.out.mono hb); have Bq' := Lib.hid (Bqr.out.mono hal); clear Bq; have Bq := Bq'; clear Bq'
    have hsq := Bqr.out.size
    clear hal r1 r2 hb x0 y0 x1 y1
    clear g11
    have x0 := (BB.out.mono g12.out).c0; have y0 := (BB.out.mono g12.out).c1
    have xr0 := (BB.out.mono gr12.out).c0; have yr0 := (BB.out.mono gr12.out).c1
    have x1 := (BC.out.mono g12.out).c0; have y1 := (BC.out.mono g12.out).c1
    have xr1 := (BC.out.mono gr12.out).c0; have yr1 := (BC.out.mono gr12.out).c1
    go_wp2_with fail
    refine (iunionI (a := b) (b := c) (BB.out.mono g12.out).is (BC.out.mono g12.out).is (by have := LB.out; omega) (by have := LC.out; omega) Hvalidb.out Hvalidc.out).mono ?_
    rintro _ w13 ⟨_, rfl, hb, _, rfl, Cv, iv, civ, Dv, jv, cjv, rfl, r1, r2, _⟩
    have hal : Below w13.heap.size w13 (w13.alloc (conBox Cv iv civ Dv jv cjv)) := (Below.refl _ _).alloc (Nat.le_refl _) _
    have Bv := Lib.hid (Boxed.new (c := (unionC b c)) ⟨r1.asDots, r2.asDots⟩ : Boxed w13.heap.size Cv Dv iv civ jv cjv (unionC b c) (w13.alloc (conBox Cv iv civ Dv jv cjv)))
    have gr13 := Lib.hid (g12.out.le hb)
    have g13 := Lib.hid (gr13.out.le hal)
    have hz13 : w.heap.size + 3 < w13.heap.size := by have h1 := gr13.out.size; have h2 := World.block_lt_of_cell? W _ D0.out; simp only at h2; omega
    have Bpr := Lib.hid (Bp.out.mono hb); have Bp' := Lib.hid (Bpr.out.mono hal); clear Bp; have Bp := Bp'; clear Bp'
    have hsp := Bpr.out.size
    have Bqr := Lib.hid (Bq.out.mono hb); have Bq' := Lib.hid (Bqr.out.mono hal); clear Bq; have Bq := Bq'; clear Bq'
    have hsq := Bqr.out.size
    have Bur := Lib.hid (Bu.out.mono hb); have Bu' := Lib.hid (Bur.out.mono hal); clear Bu; have Bu := Bu'; clear Bu'
    have hsu := Bur.out.size
    clear hal r1 r2 hb x0 y0 xr0 yr0 x1 y1 xr1 yr1
    clear gr12
    clear g12
    go_wp2_with fail
    have HAS0 : hasC a (x, y) = hasC a (x, y) := rfl
    cases hh : hasC a (x, y)
    case false =>
      have HAS := Lib.hid hh; clear hh HAS0
      have Ga := Lib.hid (BA.out.mono g13.out)
      have Gb := Lib.hid (BB.out.mono g13.out)
      have E0 := Lib.hid (cellKeep g13.out D0.out); have E1 := Lib.hid (cellKeep g13.out D1.out)
      refine wp_region_M mixed (by kernel_rfl) ?_
      refine MDerR.step (Ob.move Wanted.free Has.oldIs) ?_
      refine MDerR.step (Ob.binV Wanted.free (Has.new 0 0) (Has.cst _) (fun w1 => int_neq false rfl)) ?_
      refine MDerR.step (Ob.move Wanted.free (Has.new 1 0)) ?_
      refine MDerR.step (Ob.move (Wanted.on 2 0) Has.oldIs) ?_
      refine MDerR.step (Ob.binV (Wanted.on 2 1) (Has.new 3 0) (Has.cst _) (fun w1 => int_neq false rfl)) ?_
      refine MDerR.step (Ob.pickF Wanted.free (Has.new 2 2) (Has.new 4 0)) ?_
      refine MDerR.step (Ob.move Wanted.free (Has.new 5 0)) ?_
      refine MDerR.step (Ob.load (F := IsCon b) (Wanted.on 6 0) Has.oldIs (fun w1 v hb1 hv => Gb.out.loadI hb1 hv)) ?_
      refine MDerR.step (Ob.load (F := IsCon a) (Wanted.on 6 1) Has.oldIs (fun w1 v hb1 hv => Ga.out.loadI hb1 hv)) ?_
      refine MDerR.step (Ob.load (F := IsCon (unionC a b)) (Wanted.on 6 2) Has.oldIs (fun w1 v hb1 hv => Bu.out.loadI hb1 hv)) ?_
      refine MDerR.step (Ob.call4 (Wanted.on 6 3) entLunited (Has.new 7 2) (Has.new 8 1) (Has.new 9 0) (Has.cst _) (fun w1 q u v s hb1 (hq : IsCon b w1 q) (hu : IsCon a w1 u) (hv : IsCon (unionC a b) w1 v) (hs : IsI 0 w1 s) => lunitedI hq hu hv hs (by have := LB.out; omega) (by have := LA.out; omega) true (uniR_eq Hvalidb.out Hvalida.out (union_comm (ok_iff.1 Hvalidb.out) (ok_iff.1 Hvalida.out))))) ?_
      refine MDerR.step (Ob.not (Wanted.on 6 4) (Has.new 10 0)) ?_
      refine MDerR.step (Ob.pickF Wanted.free (Has.new 6 5) (Has.new 11 0)) ?_
      refine MDerR.step (Ob.move Wanted.free (Has.new 12 0)) ?_
      refine MDerR.step (Ob.load (F := IsCon (unionC a b)) (Wanted.on 13 0) Has.oldIs (fun w1 v hb1 hv => Bu.out.loadI hb1 hv)) ?_
      refine MDerR.step (Ob.loadV (Wanted.on 13 1) Has.oldIs (fun w1 hb1 => load_dot hb1 E0.out E1.out)) ?_
      refine MDerR.step (Ob.call2 (Wanted.on 13 2) entHas (Has.new 14 1) (Has.new 15 0) (fun w1 u v hb1 (hu : IsCon (unionC a b) w1 u) (hv : IsDot (x, y) w1 v) => chasI hu hv (hasC b (x, y)) (by rw [has_union (ok_iff.1 Hvalida.out) (ok_iff.1 Hvalidb.out), HAS.out]; rfl))) ?_
      refine MDerR.step (Ob.load (F := IsCon a) (Wanted.on 13 3) Has.oldIs (fun w1 v hb1 hv => Ga.out.loadI hb1 hv)) ?_
      refine MDerR.step (Ob.loadV (Wanted.on 13 4) Has.oldIs (fun w1 hb1 => load_dot hb1 E0.out E1.out)) ?_
      refine MDerR.step (Ob.call2 (Wanted.on 13 5) entHas (Has.new 17 1) (Has.new 18 0) (fun w1 u v hb1 (hu : IsCon a w1 u) (hv : IsDot (x, y) w1 v) => chasI hu hv false HAS.out)) ?_
      refine MDerR.step (Ob.move (Wanted.on 13 6) (Has.new 19 0)) ?_
      refine MDerR.step (Ob.load (F := IsCon b) (Wanted.on 20 0) Has.oldIs (fun w1 v hb1 hv => Gb.out.loadI hb1 hv)) ?_
      refine MDerR.step (Ob.loadV (Wanted.on 20 1) Has.oldIs (fun w1 hb1 => load_dot hb1 E0.out E1.out)) ?_
      refine MDerR.step (Ob.call2 (Wanted.on 20 2) entHas (Has.new 21 1) (Has.new 22 0) (fun w1 u v hb1 (hu : IsCon b w1 u) (hv : IsDot (x, y) w1 v) => chasI hu hv (hasC b (x, y)) rfl)) ?_
      refine MDerR.step (Ob.pickF (Wanted.on 13 10) (Has.new 20 3) (Has.new 23 0)) ?_
      refine MDerR.step (Ob.binV (Wanted.on 13 11) (Has.new 16 8) (Has.new 24 0) (fun w1 => bool_neq false (by simp))) ?_
      refine MDerR.step (Ob.pickF Wanted.free (Has.new 13 12) (Has.new 25 0)) ?_
      refine MDerR.step (Ob.move Wanted.free (Has.new 26 0)) ?_
      refine MDerR.step (Ob.load (F := IsCon a) (Wanted.on 27 0) Has.oldIs (fun w1 v hb1 hv => Ga.out.loadI hb1 hv)) ?_
      refine MDerR.step (Ob.load (F := IsCon (unionC a b)) (Wanted.on 27 1) Has.oldIs (fun w1 v hb1 hv => Bu.out.loadI hb1 hv)) ?_
      refine MDerR.step (Ob.call4 (Wanted.on 27 2) entLwithin (Has.new 28 1) (Has.new 29 0) (Has.cst _) (Has.cst _) (fun w1 q u v s hb1 (hq : IsCon a w1 q) (hu : IsCon (unionC a b) w1 u) (hv : Is (.bool true) w1 v) (hs : IsI 0 w1 s) => lwithinI hq hu hv hs (by have := LA.out; omega) (by have := LAB.out; omega) true (winR_in Hvalida.out Hvalidb.out))) ?_
      refine MDerR.step (Ob.not (Wanted.on 27 3) (Has.new 30 0)) ?_
      refine MDerR.step (Ob.pickF Wanted.free (Has.new 27 4) (Has.new 31 0)) ?_
      simp only [MDerR, dstsOf, List.map, EndM, List.reverse_cons, List.reverse_nil, List.nil_append, List.cons_append]
      intro wE hE
      iterate 7 (rintro _ rfl)
      rintro _ _h7
      rintro _ _h8
      rintro _ _h9
      iterate 4 (rintro _ rfl)
      rintro _ _h14
      iterate 2 (rintro _ rfl)
      rintro _ _h17
      iterate 3 (rintro _ rfl)
      rintro _ _h21
      iterate 6 (rintro _ rfl)
      rintro _ _h28
      rintro _ _h29
      iterate 3 (rintro _ rfl)
      simp only [Act.put, List.setIfInBounds_toArray, List.set_cons_zero, List.set_cons_succ]
      have g14 := Lib.hid (g13.out.le hE)
      have Bp' := Lib.hid (Bp.out.mono hE); clear Bp; have Bp := Bp'; clear Bp'
      have Bq' := Lib.hid (Bq.out.mono hE); clear Bq; have Bq := Bq'; clear Bq'
      have Bu' := Lib.hid (Bu.out.mono hE); clear Bu; have Bu := Bu'; clear Bu'
      have Bv' := Lib.hid (Bv.out.mono hE); clear Bv; have Bv := Bv'; clear Bv'
      clear g13 E0 E1 Ga Gb
      generalize wE = w14 at *
      clear hE
      have x0 := Bu.out.c0; have y0 := Bu.out.c1
      have x1 := (BC.out.mono g14.out).c0; have y1 := (BC.out.mono g14.out).c1
      go_wp2_with fail
      refine (iunionI (a := unionC a b) (b := c) Bu.out.is (BC.out.mono g14.out).is (by have := LAB.out; omega) (by have := LC.out; omega) (union_valid Hvalida.out Hvalidb.out) Hvalidc.out).mono ?_
      rintro _ w15 ⟨_, rfl, hb, _, rfl, Cz, iz, ciz, Dz, jz, cjz, rfl, r1, r2, _⟩
      have hal : Below w15.heap.size w15 (w15.alloc (conBox Cz iz ciz Dz jz cjz)) := (Below.refl _ _).alloc (Nat.le_refl _) _
      have Bz := Lib.hid (Boxed.new (c := (unionC (unionC a b) c)) ⟨r1.asDots, r2.asDots⟩ : Boxed w15.heap.size Cz Dz iz ciz jz cjz (unionC (unionC a b) c) (w15.alloc (conBox Cz iz ciz Dz jz cjz)))
      have gr15 := Lib.hid (g14.out.le hb)
      have g15 := Lib.hid (gr15.out.le hal)
      have hz15 : w.heap.size + 3 < w15.heap.size := by have h1 := gr15.out.size; have h2 := World.block_lt_of_cell? W _ D0.out; simp only at h2; omega
      have Bpr := Lib.hid (Bp.out.mono hb); have Bp' := Lib.hid (Bpr.out.mono hal); clear Bp; have Bp := Bp'; clear Bp'
      have hsp := Bpr.out.size
      have Bqr := Lib.hid (Bq.out.mono hb); have Bq' := Lib.hid (Bqr.out.mono hal); clear Bq; have Bq := Bq'; clear Bq'
      have hsq := Bqr.out.size
      have Bur := Lib.hid (Bu.out.mono hb); have Bu' := Lib.hid (Bur.out.mono hal); clear Bu; have Bu := Bu'; clear Bu'
      have hsu := Bur.out.size
      have Bvr := Lib.hid (Bv.out.mono hb); have Bv' := Lib.hid (Bvr.out.mono hal); clear Bv; have Bv := Bv'; clear Bv'
      have hsv := Bvr.out.size
      clear hal r1 r2 hb x0 y0 x1 y1
      clear g14
      have x0 := (BA.out.mono g15.out).c0; have y0 := (BA.out.mono g15.out).c1
      have xr0 := (BA.out.mono gr15.out).c0; have yr0 := (BA.out.mono gr15.out).c1
      have x1 := Bv.out.c0; have y1 := Bv.out.c1
      have xr1 := Bvr.out.c0; have yr1 := Bvr.out.c1
      have x2 := Bz.out.c0; have y2 := Bz.out.c1
      go_wp2_with fail
      refine (lunitedI (a := a) (b := unionC b c) (d := unionC (unionC a b) c) (BA.out.mono g15.out).is Bv.out.is Bz.out.is rfl (by have := LA.out; omega) (by have := LBC.out; omega) true (uniR_eq Hvalida.out (union_valid Hvalidb.out Hvalidc.out) (union_assoc (ok_iff.1 Hvalida.out) (ok_iff.1 Hvalidb.out) (ok_iff.1 Hvalidc.out)))).mono ?_
      rintro _ w16 ⟨_, rfl, hb, rfl⟩
      have g16 := Lib.hid (g15.out.le hb)
      have Bp' := Lib.hid (Bp.out.mono hb); clear Bp; have Bp := Bp'; clear Bp'
      have Bq' := Lib.hid (Bq.out.mono hb); clear Bq; have Bq := Bq'; clear Bq'
      have Bu' := Lib.hid (Bu.out.mono hb); clear Bu; have Bu := Bu'; clear Bu'
      have Bv' := Lib.hid (Bv.out.mono hb); clear Bv; have Bv := Bv'; clear Bv'
      have Bz' := Lib.hid (Bz.out.mono hb); clear Bz; have Bz := Bz'; clear Bz'
      clear hb g15 x0 y0 xr0 yr0 x1 y1 xr1 yr1 x2 y2 gr15
      have HBK := Lib.hid (BW.out.le g16.out)
      go_wp2_with fail
      refine (known_ _).mono ?_
      rintro _ w9 ⟨_, rfl, hb9, rfl⟩
      have HB9 := Lib.hid (HBK.out.le hb9)
      clear hb9
      go_wp2
      go_ret
      exact retB rfl HB9.out
    case true =>
      have HAS := Lib.hid hh; clear hh HAS0
      have Ga := Lib.hid (BA.out.mono g13.out)
      have Gb := Lib.hid (BB.out.mono g13.out)
      have E0 := Lib.hid (cellKeep g13.out D0.out); have E1 := Lib.hid (cellKeep g13.out D1.out)
      refine wp_region_M mixed (by kernel_rfl) ?_
      refine MDerR.step (Ob.move Wanted.free Has.oldIs) ?_
      refine MDerR.step (Ob.binV Wanted.free (Has.new 0 0) (Has.cst _) (fun w1 => int_neq false rfl)) ?_
      refine MDerR.step (Ob.move Wanted.free (Has.new 1 0)) ?_
      refine MDerR.step (Ob.move (Wanted.on 2 0) Has.oldIs) ?_
      refine MDerR.step (Ob.binV (Wanted.on 2 1) (Has.new 3 0) (Has.cst _) (fun w1 => int_neq false rfl)) ?_
      refine MDerR.step (Ob.pickF Wanted.free (Has.new 2 2) (Has.new 4 0)) ?_
      refine MDerR.step (Ob.move Wanted.free (Has.new 5 0)) ?_
      refine MDerR.step (Ob.load (F := IsCon b) (Wanted.on 6 0) Has.oldIs (fun w1 v hb1 hv => Gb.out.loadI hb1 hv)) ?_
      refine MDerR.step (Ob.load (F := IsCon a) (Wanted.on 6 1) Has.oldIs (fun w1 v hb1 hv => Ga.out.loadI hb1 hv)) ?_
      refine MDerR.step (Ob.load (F := IsCon (unionC a b)) (Wanted.on 6 2) Has.oldIs (fun w1 v hb1 hv => Bu.out.loadI hb1 hv)) ?_
      refine MDerR.step (Ob.call4 (Wanted.on 6 3) entLunited (Has.new 7 2) (Has.new 8 1) (Has.new 9 0) (Has.cst _) (fun w1 q u v s hb1 (hq : IsCon b w1 q) (hu : IsCon a w1 u) (hv : IsCon (unionC a b) w1 v) (hs : IsI 0 w1 s) => lunitedI hq hu hv hs (by have := LB.out; omega) (by have := LA.out; omega) true (uniR_eq Hvalidb.out Hvalida.out (union_comm (ok_iff.1 Hvalidb.out) (ok_iff.1 Hvalida.out))))) ?_
      refine MDerR.step (Ob.not (Wanted.on 6 4) (Has.new 10 0)) ?_
      refine MDerR.step (Ob.pickF Wanted.free (Has.new 6 5) (Has.new 11 0)) ?_
      refine MDerR.step (Ob.move Wanted.free (Has.new 12 0)) ?_
      refine MDerR.step (Ob.load (F := IsCon (unionC a b)) (Wanted.on 13 0) Has.oldIs (fun w1 v hb1 hv => Bu.out.loadI hb1 hv)) ?_
      refine MDerR.step (Ob.loadV (Wanted.on 13 1) Has.oldIs (fun w1 hb1 => load_dot hb1 E0.out E1.out)) ?_
      refine MDerR.step (Ob.call2 (Wanted.on 13 2) entHas (Has.new 14 1) (Has.new 15 0) (fun w1 u v hb1 (hu : IsCon (unionC a b) w1 u) (hv : IsDot (x, y) w1 v) => chasI hu hv (true) (by rw [has_union (ok_iff.1 Hvalida.out) (ok_iff.1 Hvalidb.out), HAS.out]; rfl))) ?_
      refine MDerR.step (Ob.load (F := IsCon a) (Wanted.on 13 3) Has.oldIs (fun w1 v hb1 hv => Ga.out.loadI hb1 hv)) ?_
      refine MDerR.step (Ob.loadV (Wanted.on 13 4) Has.oldIs (fun w1 hb1 => load_dot hb1 E0.out E1.out)) ?_
      refine MDerR.step (Ob.call2 (Wanted.on 13 5) entHas (Has.new 17 1) (Has.new 18 0) (fun w1 u v hb1 (hu : IsCon a w1 u) (hv : IsDot (x, y) w1 v) => chasI hu hv true HAS.out)) ?_
      refine MDerR.step (Ob.move (Wanted.on 13 6) (Has.new 19 0)) ?_
      refine MDerR.step (Ob.off 20 0) ?_
      refine MDerR.step (Ob.off 20 1) ?_
      refine MDerR.step (Ob.off 20 2) ?_
      refine MDerR.step (Ob.pickT (Wanted.on 13 10) (Has.new 20 3) (Has.cst _)) ?_
      refine MDerR.step (Ob.binV (Wanted.on 13 11) (Has.new 16 8) (Has.new 24 0) (fun w1 => bool_neq false (by simp))) ?_
      refine MDerR.step (Ob.pickF Wanted.free (Has.new 13 12) (Has.new 25 0)) ?_
      refine MDerR.step (Ob.move Wanted.free (Has.new 26 0)) ?_
      refine MDerR.step (Ob.load (F := IsCon a) (Wanted.on 27 0) Has.oldIs (fun w1 v hb1 hv => Ga.out.loadI hb1 hv)) ?_
      refine MDerR.step (Ob.load (F := IsCon (unionC a b)) (Wanted.on 27 1) Has.oldIs (fun w1 v hb1 hv => Bu.out.loadI hb1 hv)) ?_
      refine MDerR.step (Ob.call4 (Wanted.on 27 2) entLwithin (Has.new 28 1) (Has.new 29 0) (Has.cst _) (Has.cst _) (fun w1 q u v s hb1 (hq : IsCon a w1 q) (hu : IsCon (unionC a b) w1 u) (hv : Is (.bool true) w1 v) (hs : IsI 0 w1 s) => lwithinI hq hu hv hs (by have := LA.out; omega) (by have := LAB.out; omega) true (winR_in Hvalida.out Hvalidb.out))) ?_
      refine MDerR.step (Ob.not (Wanted.on 27 3) (Has.new 30 0)) ?_
      refine MDerR.step (Ob.pickF Wanted.free (Has.new 27 4) (Has.new 31 0)) ?_
      simp only [MDerR, dstsOf, List.map, EndM, List.reverse_cons, List.reverse_nil, List.nil_append, List.cons_append]
      intro wE hE
      iterate 7 (rintro _ rfl)
      rintro _ _h7
      rintro _ _h8
      rintro _ _h9
      iterate 4 (rintro _ rfl)
      rintro _ _h14
      iterate 2 (rintro _ rfl)
      rintro _ _h17
      iterate 10 (rintro _ rfl)
      rintro _ _h28
      rintro _ _h29
      iterate 3 (rintro _ rfl)
      simp only [Act.put, List.setIfInBounds_toArray, List.set_cons_zero, List.set_cons_succ]
      have g14 := Lib.hid (g13.out.le hE)
      have Bp' := Lib.hid (Bp.out.mono hE); clear Bp; have Bp := Bp'; clear Bp'
      have Bq' := Lib.hid (Bq.out.mono hE); clear Bq; have Bq := Bq'; clear Bq'
      have Bu' := Lib.hid (Bu.out.mono hE); clear Bu; have Bu := Bu'; clear Bu'
      have Bv' := Lib.hid (Bv.out.mono hE); clear Bv; have Bv := Bv'; clear Bv'
      clear g13 E0 E1 Ga Gb
      generalize wE = w14 at *
      clear hE
      have x0 := Bu.out.c0; have y0 := Bu.out.c1
      have x1 := (BC.out.mono g14.out).c0; have y1 := (BC.out.mono g14.out).c1
      go_wp2_with fail
      refine (iunionI (a := unionC a b) (b := c) Bu.out.is (BC.out.mono g14.out).is (by have := LAB.out; omega) (by have := LC.out; omega) (union_valid Hvalida.out Hvalidb.out) Hvalidc.out).mono ?_
      rintro _ w15 ⟨_, rfl, hb, _, rfl, Cz, iz, ciz, Dz, jz, cjz, rfl, r1, r2, _⟩
      have hal : Below w15.heap.size w15 (w15.alloc (conBox Cz iz ciz Dz jz cjz)) := (Below.refl _ _).alloc (Nat.le_refl _) _
      have Bz := Lib.hid (Boxed.new (c := (unionC (unionC a b) c)) ⟨r1.asDots, r2.asDots⟩ : Boxed w15.heap.size Cz Dz iz ciz jz cjz (unionC (unionC a b) c) (w15.alloc (conBox Cz iz ciz Dz jz cjz)))
      have gr15 := Lib.hid (g14.out.le hb)
      have g15 := Lib.hid (gr15.out.le hal)
      have hz15 : w.heap.size + 3 < w15.heap.size := by have h1 := gr15.out.size; have h2 := World.block_lt_of_cell? W _ D0.out; simp only at h2; omega
      have Bpr := Lib.hid (Bp.out.mono hb); have Bp' := Lib.hid (Bpr.out.mono hal); clear Bp; have Bp := Bp'; clear Bp'
      have hsp := Bpr.out.size
      have Bqr := Lib.hid (Bq.out.mono hb); have Bq' := Lib.hid (Bqr.out.mono hal); clear Bq; have Bq := Bq'; clear Bq'
      have hsq := Bqr.out.size
      have Bur := Lib.hid (Bu.out.mono hb); have Bu' := Lib.hid (Bur.out.mono hal); clear Bu; have Bu := Bu'; clear Bu'
      have hsu := Bur.out.size
      have Bvr := Lib.hid (Bv.out.mono hb); have Bv' := Lib.hid (Bvr.out.mono hal); clear Bv; have Bv := Bv'; clear Bv'
      have hsv := Bvr.out.size
      clear hal r1 r2 hb x0 y0 x1 y1
      clear g14
      have x0 := (BA.out.mono g15.out).c0; have y0 := (BA.out.mono g15.out).c1
      have xr0 := (BA.out.mono gr15.out).c0; have yr0 := (BA.out.mono gr15.out).c1
      have x1 := Bv.out.c0; have y1 := Bv.out.c1
      have xr1 := Bvr.out.c0; have yr1 := Bvr.out.c1
      have x2 := Bz.out.c0; have y2 := Bz.out.c1
      go_wp2_with fail
      refine (lunitedI (a := a) (b := unionC b c) (d := unionC (unionC a b) c) (BA.out.mono g15.out).is Bv.out.is Bz.out.is rfl (by have := LA.out; omega) (by have := LBC.out; omega) true (uniR_eq Hvalida.out (union_valid Hvalidb.out Hvalidc.out) (union_assoc (ok_iff.1 Hvalida.out) (ok_iff.1 Hvalidb.out) (ok_iff.1 Hvalidc.out)))).mono ?_
      rintro _ w16 ⟨_, rfl, hb, rfl⟩
      have g16 := Lib.hid (g15.out.le hb)
      have Bp' := Lib.hid (Bp.out.mono hb); clear Bp; have Bp := Bp'; clear Bp'
      have Bq' := Lib.hid (Bq.out.mono hb); clear Bq; have Bq := Bq'; clear Bq'
      have Bu' := Lib.hid (Bu.out.mono hb); clear Bu; have Bu := Bu'; clear Bu'
      have Bv' := Lib.hid (Bv.out.mono hb); clear Bv; have Bv := Bv'; clear Bv'
      have Bz' := Lib.hid (Bz.out.mono hb); clear Bz; have Bz := Bz'; clear Bz'
      clear hb g15 x0 y0 xr0 yr0 x1 y1 xr1 yr1 x2 y2 gr15
      have HBK := Lib.hid (BW.out.le g16.out)
      go_wp2_with fail
      refine (known_ _).mono ?_
      rintro _ w9 ⟨_, rfl, hb9, rfl⟩
      have HB9 := Lib.hid (HBK.out.le hb9)
      clear hb9
      go_wp2
      go_ret
      exact retB rfl HB9.out
  case true =>
    have HIN := Lib.hid hin; clear hin
    have Ga := Lib.hid (BA.out.mono g10.out)
    have E0 := Lib.hid (cellKeep g10.out D0.out); have E1 := Lib.hid (cellKeep g10.out D1.out)
    refine wp_region_M mixed (by kernel_rfl) ?_
    refine MDerR.step (Ob.move Wanted.free Has.oldIs) ?_
    refine MDerR.step (Ob.binV Wanted.free (Has.new 0 0) (Has.cst _) (fun w1 => int_neq false rfl)) ?_
    refine MDerR.step (Ob.move Wanted.free (Has.new 1 0)) ?_
    refine MDerR.step (Ob.move (Wanted.on 2 0) Has.oldIs) ?_
    refine MDerR.step (Ob.binV (Wanted.on 2 1) (Has.new 3 0) (Has.cst _) (fun w1 => int_neq false rfl)) ?_
    refine MDerR.step (Ob.pickF Wanted.free (Has.new 2 2) (Has.new 4 0)) ?_
    refine MDerR.step (Ob.move Wanted.free (Has.new 5 0)) ?_
    refine MDerR.step (Ob.move (Wanted.on 6 0) Has.oldIs) ?_
    refine MDerR.step (Ob.binV (Wanted.on 6 1) (Has.new 7 0) (Has.cst _) (fun w1 => int_neq false rfl)) ?_
    refine MDerR.step (Ob.pickF Wanted.free (Has.new 6 2) (Has.new 8 0)) ?_
    refine MDerR.step (Ob.move Wanted.free (Has.new 9 0)) ?_
    refine MDerR.step (Ob.move (Wanted.on 10 0) Has.oldIs) ?_
    refine MDerR.step (Ob.binV (Wanted.on 10 1) (Has.new 11 0) (Has.cst _) (fun w1 => int_neq false rfl)) ?_
    refine MDerR.step (Ob.pickF Wanted.free (Has.new 10 2) (Has.new 12 0)) ?_
    refine MDerR.step (Ob.move Wanted.free (Has.new 13 0)) ?_
    refine MDerR.step (Ob.load (F := IsCon (passC a)) (Wanted.on 14 0) Has.oldIs (fun w1 v hb1 hv => Bp.out.loadI hb1 hv)) ?_
    refine MDerR.step (Ob.load (F := IsCon (passC b)) (Wanted.on 14 1) Has.oldIs (fun w1 v hb1 hv => Bq.out.loadI hb1 hv)) ?_
    refine MDerR.step (Ob.call2 (Wanted.on 14 2) entRceq (Has.new 15 1) (Has.new 16 0) (fun w1 u v hb1 (hu : IsCon (passC a) w1 u) (hv : IsCon (passC b) w1 v) => rceqI hu hv (inC b a) (by have h := same_iff (ok_iff.1 Hvalida.out) (ok_iff.1 Hvalidb.out); rw [compact_pass, compact_pass, HIN.out] at h; rw [h]; rfl))) ?_
    refine MDerR.step (Ob.move (Wanted.on 14 3) Has.oldIs) ?_
    refine MDerR.step (Ob.move (Wanted.on 14 4) (Has.new 18 0)) ?_
    refine MDerR.step (Ob.move (Wanted.on 19 0) Has.oldIs) ?_
    refine MDerR.step (Ob.pickT (Wanted.on 14 6) (Has.new 19 1) (Has.new 20 0)) ?_
    refine MDerR.step (Ob.binV (Wanted.on 14 7) (Has.new 17 4) (Has.new 21 0) (fun w1 => bool_neq false (by simp))) ?_
    refine MDerR.step (Ob.pickF Wanted.free (Has.new 14 8) (Has.new 22 0)) ?_
    refine MDerR.step (Ob.move Wanted.free (Has.new 23 0)) ?_
    refine MDerR.step (Ob.load (F := IsCon (passC a)) (Wanted.on 24 0) Has.oldIs (fun w1 v hb1 hv => Bp.out.loadI hb1 hv)) ?_
    refine MDerR.step (Ob.call1 (Wanted.on 24 1) entComp (Has.new 25 0) (fun w1 u hb1 (hu : IsCon (passC a) w1 u) => ccompI hu true (pass_comp Hvalida.out))) ?_
    refine MDerR.step (Ob.not (Wanted.on 24 2) (Has.new 26 0)) ?_
    refine MDerR.step (Ob.pickF Wanted.free (Has.new 24 3) (Has.new 27 0)) ?_
    refine MDerR.step (Ob.move Wanted.free (Has.new 28 0)) ?_
    refine MDerR.step (Ob.load (F := IsCon (passC a)) (Wanted.on 29 0) Has.oldIs (fun w1 v hb1 hv => Bp.out.loadI hb1 hv)) ?_
    refine MDerR.step (Ob.load (F := IsCon (passC a)) (Wanted.on 29 1) Has.oldIs (fun w1 v hb1 hv => Bp.out.loadI hb1 hv)) ?_
    refine MDerR.step (Ob.call3 (Wanted.on 29 2) entLcompacts (Has.new 30 1) (Has.new 31 0) (Has.cst _) (fun w1 u v s hb1 (hu : IsCon (passC a) w1 u) (hv : IsCon (passC a) w1 v) (hs : IsI 0 w1 s) => lcompactsI hu hv hs (by have := pass_length a; have := LA.out; omega) true (compR_pass Hvalida.out))) ?_
    refine MDerR.step (Ob.not (Wanted.on 29 3) (Has.new 32 0)) ?_
    refine MDerR.step (Ob.pickF Wanted.free (Has.new 29 4) (Has.new 33 0)) ?_
    refine MDerR.step (Ob.move Wanted.free (Has.new 34 0)) ?_
    refine MDerR.step (Ob.load (F := IsCon (passC a)) (Wanted.on 35 0) Has.oldIs (fun w1 v hb1 hv => Bp.out.loadI hb1 hv)) ?_
    refine MDerR.step (Ob.call1 (Wanted.on 35 1) entSize (Has.new 36 0) (fun w1 u hb1 (hu : IsCon (passC a) w1 u) => isizeI hu (by have := pass_length a; have := LA.out; omega) _ (size_two Hvalida.out))) ?_
    refine MDerR.step (Ob.load (F := IsCon a) (Wanted.on 35 2) Has.oldIs (fun w1 v hb1 hv => Ga.out.loadI hb1 hv)) ?_
    refine MDerR.step (Ob.call1 (Wanted.on 35 3) entSize (Has.new 38 0) (fun w1 u hb1 (hu : IsCon a w1 u) => isizeI hu (by have := LA.out; omega) (if validC a then sizeR a else 0) rfl)) ?_
    refine MDerR.step (Ob.binV (Wanted.on 35 4) (Has.new 37 2) (Has.new 39 0) (fun w1 => int_neq false (by simp))) ?_
    refine MDerR.step (Ob.pickF Wanted.free (Has.new 35 5) (Has.new 40 0)) ?_
    simp only [MDerR, dstsOf, List.map, EndM, List.reverse_cons, List.reverse_nil, List.nil_append, List.cons_append]
    intro wE hE
    iterate 15 (rintro _ rfl)
    rintro _ _h15
    rintro _ _h16
    iterate 8 (rintro _ rfl)
    rintro _ _h25
    iterate 4 (rintro _ rfl)
    rintro _ _h30
    rintro _ _h31
    iterate 4 (rintro _ rfl)
    rintro _ _h36
    iterate 1 (rintro _ rfl)
    rintro _ _h38
    iterate 3 (rintro _ rfl)
    simp only [Act.put, List.setIfInBounds_toArray, List.set_cons_zero, List.set_cons_succ]
    have g11 := Lib.hid (g10.out.le hE)
    have Bp' := Lib.hid (Bp.out.mono hE); clear Bp; have Bp := Bp'; clear Bp'
    have Bq' := Lib.hid (Bq.out.mono hE); clear Bq; have Bq := Bq'; clear Bq'
    clear g10 E0 E1 Ga
    generalize wE = w11 at *
    clear hE
    have x0 := (BA.out.mono g11.out).c0; have y0 := (BA.out.mono g11.out).c1
    have x1 := (BB.out.mono g11.out).c0; have y1 := (BB.out.mono g11.out).c1
    go_wp2_with fail
    refine (iunionI (a := a) (b := b) (BA.out.mono g11.out).is (BB.out.mono g11.out).is (by have := LA.out; omega) (by have := LB.out; omega) Hvalida.out Hvalidb.out).mono ?_
    rintro _ w12 ⟨_, rfl, hb, _, rfl, Cu, iu, ciu, Du, ju, cju, rfl, r1, r2, _⟩
    have hal : Below w12.heap.size w12 (w12.alloc (conBox Cu iu ciu Du ju cju)) := (Below.refl _ _).alloc (Nat.le_refl _) _
    have Bu := Lib.hid (Boxed.new (c := (unionC a b)) ⟨r1.asDots, r2.asDots⟩ : Boxed w12.heap.size Cu Du iu ciu ju cju (unionC a b) (w12.alloc (conBox Cu iu ciu Du ju cju)))
    have gr12 := Lib.hid (g11.out.le hb)
    have g12 := Lib.hid (gr12.out.le hal)
    have hz12 : w.heap.size + 3 < w12.heap.size := by have h1 := gr12.out.size; have h2 := World.block_lt_of_cell? W _ D0.out; simp only at h2; omega
    have Bpr := Lib.hid (Bp.out.mono hb); have Bp' := Lib.hid (Bpr.out.mono hal); clear Bp; have Bp := Bp'; clear Bp'
    have hsp := Bpr.out.size
    have Bqr := Lib.hid (Bq.out.mono hb); have Bq' := Lib.hid (Bqr.out.mono hal); clear Bq; have Bq := Bq'; clear Bq'
    have hsq := Bqr.out.size
    clear hal r1 r2 hb x0 y0 x1 y1
    clear g11
    have x0 := (BB.out.mono g12.out).c0; have y0 := (BB.out.mono g12.out).c1
    have xr0 := (BB.out.mono gr12.out).c0; have yr0 := (BB.out.mono gr12.out).c1
    have x1 := (BC.out.mono g12.out).c0; have y1 := (BC.out.mono g12.out).c1
    have xr1 := (BC.out.mono gr12.out).c0; have yr1 := (BC.out.mono gr12.out).c1
    go_wp2_with fail
    refine (iunionI (a := b) (b := c) (BB.out.mono g12.out).is (BC.out.mono g12.out).is (by have := LB.out; omega) (by have := LC.out; omega) Hvalidb.out Hvalidc.out).mono ?_
    rintro _ w13 ⟨_, rfl, hb, _, rfl, Cv, iv, civ, Dv, jv, cjv, rfl, r1, r2, _⟩
    have hal : Below w13.heap.size w13 (w13.alloc (conBox Cv iv civ Dv jv cjv)) := (Below.refl _ _).alloc (Nat.le_refl _) _
    have Bv := Lib.hid (Boxed.new (c := (unionC b c)) ⟨r1.asDots, r2.asDots⟩ : Boxed w13.heap.size Cv Dv iv civ jv cjv (unionC b c) (w13.alloc (conBox Cv iv civ Dv jv cjv)))
    have gr13 := Lib.hid (g12.out.le hb)
    have g13 := Lib.hid (gr13.out.le hal)
    have hz13 : w.heap.size + 3 < w13.heap.size := by have h1 := gr13.out.size; have h2 := World.block_lt_of_cell? W _ D0.out; simp only at h2; omega
    have Bpr := Lib.hid (Bp.out.mono hb); have Bp' := Lib.hid (Bpr.out.mono hal); clear Bp; have Bp := Bp'; clear Bp'
    have hsp := Bpr.out.size
    have Bqr := Lib.hid (Bq.out.mono hb); have Bq' := Lib.hid (Bqr.out.mono hal); clear Bq; have Bq := Bq'; clear Bq'
    have hsq := Bqr.out.size
    have Bur := Lib.hid (Bu.out.mono hb); have Bu' := Lib.hid (Bur.out.mono hal); clear Bu; have Bu := Bu'; clear Bu'
    have hsu := Bur.out.size
    clear hal r1 r2 hb x0 y0 xr0 yr0 x1 y1 xr1 yr1
    clear gr12
    clear g12
    go_wp2_with fail
    have HAS0 : hasC a (x, y) = hasC a (x, y) := rfl
    cases hh : hasC a (x, y)
    case false =>
      have HAS := Lib.hid hh; clear hh HAS0
      have Ga := Lib.hid (BA.out.mono g13.out)
      have Gb := Lib.hid (BB.out.mono g13.out)
      have E0 := Lib.hid (cellKeep g13.out D0.out); have E1 := Lib.hid (cellKeep g13.out D1.out)
      refine wp_region_M mixed (by kernel_rfl) ?_
      refine MDerR.step (Ob.move Wanted.free Has.oldIs) ?_
      refine MDerR.step (Ob.binV Wanted.free (Has.new 0 0) (Has.cst _) (fun w1 => int_neq false rfl)) ?_
      refine MDerR.step (Ob.move Wanted.free (Has.new 1 0)) ?_
      refine MDerR.step (Ob.move (Wanted.on 2 0) Has.oldIs) ?_
      refine MDerR.step (Ob.binV (Wanted.on 2 1) (Has.new 3 0) (Has.cst _) (fun w1 => int_neq false rfl)) ?_
      refine MDerR.step (Ob.pickF Wanted.free (Has.new 2 2) (Has.new 4 0)) ?_
      refine MDerR.step (Ob.move Wanted.free (Has.new 5 0)) ?_
      refine MDerR.step (Ob.load (F := IsCon b) (Wanted.on 6 0) Has.oldIs (fun w1 v hb1 hv => Gb.out.loadI hb1 hv)) ?_
      refine MDerR.step (Ob.load (F := IsCon a) (Wanted.on 6 1) Has.oldIs (fun w1 v hb1 hv => Ga.out.loadI hb1 hv)) ?_
      refine MDerR.step (Ob.load (F := IsCon (unionC a b)) (Wanted.on 6 2) Has.oldIs (fun w1 v hb1 hv => Bu.out.loadI hb1 hv)) ?_
      refine MDerR.step (Ob.call4 (Wanted.on 6 3) entLunited (Has.new 7 2) (Has.new 8 1) (Has.new 9 0) (Has.cst _) (fun w1 q u v s hb1 (hq : IsCon b w1 q) (hu : IsCon a w1 u) (hv : IsCon (unionC a b) w1 v) (hs : IsI 0 w1 s) => lunitedI hq hu hv hs (by have := LB.out; omega) (by have := LA.out; omega) true (uniR_eq Hvalidb.out Hvalida.out (union_comm (ok_iff.1 Hvalidb.out) (ok_iff.1 Hvalida.out))))) ?_
      refine MDerR.step (Ob.not (Wanted.on 6 4) (Has.new 10 0)) ?_
      refine MDerR.step (Ob.pickF Wanted.free (Has.new 6 5) (Has.new 11 0)) ?_
      refine MDerR.step (Ob.move Wanted.free (Has.new 12 0)) ?_
      refine MDerR.step (Ob.load (F := IsCon (unionC a b)) (Wanted.on 13 0) Has.oldIs (fun w1 v hb1 hv => Bu.out.loadI hb1 hv)) ?_
      refine MDerR.step (Ob.loadV (Wanted.on 13 1) Has.oldIs (fun w1 hb1 => load_dot hb1 E0.out E1.out)) ?_
      refine MDerR.step (Ob.call2 (Wanted.on 13 2) entHas (Has.new 14 1) (Has.new 15 0) (fun w1 u v hb1 (hu : IsCon (unionC a b) w1 u) (hv : IsDot (x, y) w1 v) => chasI hu hv (hasC b (x, y)) (by rw [has_union (ok_iff.1 Hvalida.out) (ok_iff.1 Hvalidb.out), HAS.out]; rfl))) ?_
      refine MDerR.step (Ob.load (F := IsCon a) (Wanted.on 13 3) Has.oldIs (fun w1 v hb1 hv => Ga.out.loadI hb1 hv)) ?_
      refine MDerR.step (Ob.loadV (Wanted.on 13 4) Has.oldIs (fun w1 hb1 => load_dot hb1 E0.out E1.out)) ?_
      refine MDerR.step (Ob.call2 (Wanted.on 13 5) entHas (Has.new 17 1) (Has.new 18 0) (fun w1 u v hb1 (hu : IsCon a w1 u) (hv : IsDot (x, y) w1 v) => chasI hu hv false HAS.out)) ?_
      refine MDerR.step (Ob.move (Wanted.on 13 6) (Has.new 19 0)) ?_
      refine MDerR.step (Ob.load (F := IsCon b) (Wanted.on 20 0) Has.oldIs (fun w1 v hb1 hv => Gb.out.loadI hb1 hv)) ?_
      refine MDerR.step (Ob.loadV (Wanted.on 20 1) Has.oldIs (fun w1 hb1 => load_dot hb1 E0.out E1.out)) ?_
      refine MDerR.step (Ob.call2 (Wanted.on 20 2) entHas (Has.new 21 1) (Has.new 22 0) (fun w1 u v hb1 (hu : IsCon b w1 u) (hv : IsDot (x, y) w1 v) => chasI hu hv (hasC b (x, y)) rfl)) ?_
      refine MDerR.step (Ob.pickF (Wanted.on 13 10) (Has.new 20 3) (Has.new 23 0)) ?_
      refine MDerR.step (Ob.binV (Wanted.on 13 11) (Has.new 16 8) (Has.new 24 0) (fun w1 => bool_neq false (by simp))) ?_
      refine MDerR.step (Ob.pickF Wanted.free (Has.new 13 12) (Has.new 25 0)) ?_
      refine MDerR.step (Ob.move Wanted.free (Has.new 26 0)) ?_
      refine MDerR.step (Ob.load (F := IsCon a) (Wanted.on 27 0) Has.oldIs (fun w1 v hb1 hv => Ga.out.loadI hb1 hv)) ?_
      refine MDerR.step (Ob.load (F := IsCon (unionC a b)) (Wanted.on 27 1) Has.oldIs (fun w1 v hb1 hv => Bu.out.loadI hb1 hv)) ?_
      refine MDerR.step (Ob.call4 (Wanted.on 27 2) entLwithin (Has.new 28 1) (Has.new 29 0) (Has.cst _) (Has.cst _) (fun w1 q u v s hb1 (hq : IsCon a w1 q) (hu : IsCon (unionC a b) w1 u) (hv : Is (.bool true) w1 v) (hs : IsI 0 w1 s) => lwithinI hq hu hv hs (by have := LA.out; omega) (by have := LAB.out; omega) true (winR_in Hvalida.out Hvalidb.out))) ?_
      refine MDerR.step (Ob.not (Wanted.on 27 3) (Has.new 30 0)) ?_
      refine MDerR.step (Ob.pickF Wanted.free (Has.new 27 4) (Has.new 31 0)) ?_
      simp only [MDerR, dstsOf, List.map, EndM, List.reverse_cons, List.reverse_nil, List.nil_append, List.cons_append]
      intro wE hE
      iterate 7 (rintro _ rfl)
      rintro _ _h7
      rintro _ _h8
      rintro _ _h9
      iterate 4 (rintro _ rfl)
      rintro _ _h14
      iterate 2 (rintro _ rfl)
      rintro _ _h17
      iterate 3 (rintro _ rfl)
      rintro _ _h21
      iterate 6 (rintro _ rfl)
      rintro _ _h28
      rintro _ _h29
      iterate 3 (rintro _ rfl)
      simp only [Act.put, List.setIfInBounds_toArray, List.set_cons_zero, List.set_cons_succ]
      have g14 := Lib.hid (g13.out.le hE)
      have Bp' := Lib.hid (Bp.out.mono hE); clear Bp; have Bp := Bp'; clear Bp'
      have Bq' := Lib.hid (Bq.out.mono hE); clear Bq; have Bq := Bq'; clear Bq'
      have Bu' := Lib.hid (Bu.out.mono hE); clear Bu; have Bu := Bu'; clear Bu'
      have Bv' := Lib.hid (Bv.out.mono hE); clear Bv; have Bv := Bv'; clear Bv'
      clear g13 E0 E1 Ga Gb
      generalize wE = w14 at *
      clear hE
      have x0 := Bu.out.c0; have y0 := Bu.out.c1
      have x1 := (BC.out.mono g14.out).c0; have y1 := (BC.out.mono g14.out).c1
      go_wp2_with fail
      refine (iunionI (a := unionC a b) (b := c) Bu.out.is (BC.out.mono g14.out).is (by have := LAB.out; omega) (by have := LC.out; omega) (union_valid Hvalida.out Hvalidb.out) Hvalidc.out).mono ?_
      rintro _ w15 ⟨_, rfl, hb, _, rfl, Cz, iz, ciz, Dz, jz, cjz, rfl, r1, r2, _⟩
      have hal : Below w15.heap.size w15 (w15.alloc (conBox Cz iz ciz Dz jz cjz)) := (Below.refl _ _).alloc (Nat.le_refl _) _
      have Bz := Lib.hid (Boxed.new (c := (unionC (unionC a b) c)) ⟨r1.asDots, r2.asDots⟩ : Boxed w15.heap.size Cz Dz iz ciz jz cjz (unionC (unionC a b) c) (w15.alloc (conBox Cz iz ciz Dz jz cjz)))
      have gr15 := Lib.hid (g14.out.le hb)
      have g15 := Lib.hid (gr15.out.le hal)
      have hz15 : w.heap.size + 3 < w15.heap.size := by have h1 := gr15.out.size; have h2 := World.block_lt_of_cell? W _ D0.out; simp only at h2; omega
      have Bpr := Lib.hid (Bp.out.mono hb); have Bp' := Lib.hid (Bpr.out.mono hal); clear Bp; have Bp := Bp'; clear Bp'
      have hsp := Bpr.out.size
      have Bqr := Lib.hid (Bq.out.mono hb); have Bq' := Lib.hid (Bqr.out.mono hal); clear Bq; have Bq := Bq'; clear Bq'
      have hsq := Bqr.out.size
      have Bur := Lib.hid (Bu.out.mono hb); have Bu' := Lib.hid (Bur.out.mono hal); clear Bu; have Bu := Bu'; clear Bu'
      have hsu := Bur.out.size
      have Bvr := Lib.hid (Bv.out.mono hb); have Bv' := Lib.hid (Bvr.out.mono hal); clear Bv; have Bv := Bv'; clear Bv'
      have hsv := Bvr.out.size
      clear hal r1 r2 hb x0 y0 x1 y1
      clear g14
      have x0 := (BA.out.mono g15.out).c0; have y0 := (BA.out.mono g15.out).c1
      have xr0 := (BA.out.mono gr15.out).c0; have yr0 := (BA.out.mono gr15.out).c1
      have x1 := Bv.out.c0; have y1 := Bv.out.c1
      have xr1 := Bvr.out.c0; have yr1 := Bvr.out.c1
      have x2 := Bz.out.c0; have y2 := Bz.out.c1
      go_wp2_with fail
      refine (lunitedI (a := a) (b := unionC b c) (d := unionC (unionC a b) c) (BA.out.mono g15.out).is Bv.out.is Bz.out.is rfl (by have := LA.out; omega) (by have := LBC.out; omega) true (uniR_eq Hvalida.out (union_valid Hvalidb.out Hvalidc.out) (union_assoc (ok_iff.1 Hvalida.out) (ok_iff.1 Hvalidb.out) (ok_iff.1 Hvalidc.out)))).mono ?_
      rintro _ w16 ⟨_, rfl, hb, rfl⟩
      have g16 := Lib.hid (g15.out.le hb)
      have Bp' := Lib.hid (Bp.out.mono hb); clear Bp; have Bp := Bp'; clear Bp'
      have Bq' := Lib.hid (Bq.out.mono hb); clear Bq; have Bq := Bq'; clear Bq'
      have Bu' := Lib.hid (Bu.out.mono hb); clear Bu; have Bu := Bu'; clear Bu'
      have Bv' := Lib.hid (Bv.out.mono hb); clear Bv; have Bv := Bv'; clear Bv'
      have Bz' := Lib.hid (Bz.out.mono hb); clear Bz; have Bz := Bz'; clear Bz'
      clear hb g15 x0 y0 xr0 yr0 x1 y1 xr1 yr1 x2 y2 gr15
      have HBK := Lib.hid (BW.out.le g16.out)
      go_wp2_with fail
      refine (known_ _).mono ?_
      rintro _ w9 ⟨_, rfl, hb9, rfl⟩
      have HB9 := Lib.hid (HBK.out.le hb9)
      clear hb9
      go_wp2
      go_ret
      exact retB rfl HB9.out
    case true =>
      have HAS := Lib.hid hh; clear hh HAS0
      have Ga := Lib.hid (BA.out.mono g13.out)
      have Gb := Lib.hid (BB.out.mono g13.out)
      have E0 := Lib.hid (cellKeep g13.out D0.out); have E1 := Lib.hid (cellKeep g13.out D1.out)
      refine wp_region_M mixed (by kernel_rfl) ?_
      refine MDerR.step (Ob.move Wanted.free Has.oldIs) ?_
      refine MDerR.step (Ob.binV Wanted.free (Has.new 0 0) (Has.cst _) (fun w1 => int_neq false rfl)) ?_
      refine MDerR.step (Ob.move Wanted.free (Has.new 1 0)) ?_
      refine MDerR.step (Ob.move (Wanted.on 2 0) Has.oldIs) ?_
      refine MDerR.step (Ob.binV (Wanted.on 2 1) (Has.new 3 0) (Has.cst _) (fun w1 => int_neq false rfl)) ?_
      refine MDerR.step (Ob.pickF Wanted.free (Has.new 2 2) (Has.new 4 0)) ?_
      refine MDerR.step (Ob.move Wanted.free (Has.new 5 0)) ?_
      refine MDerR.step (Ob.load (F := IsCon b) (Wanted.on 6 0) Has.oldIs (fun w1 v hb1 hv => Gb.out.loadI hb1 hv)) ?_
      refine MDerR.step (Ob.load (F := IsCon a) (Wanted.on 6 1) Has.oldIs (fun w1 v hb1 hv => Ga.out.loadI hb1 hv)) ?_
      refine MDerR.step (Ob.load (F := IsCon (unionC a b)) (Wanted.on 6 2) Has.oldIs (fun w1 v hb1 hv => Bu.out.loadI hb1 hv)) ?_
      refine MDerR.step (Ob.call4 (Wanted.on 6 3) entLunited (Has.new 7 2) (Has.new 8 1) (Has.new 9 0) (Has.cst _) (fun w1 q u v s hb1 (hq : IsCon b w1 q) (hu : IsCon a w1 u) (hv : IsCon (unionC a b) w1 v) (hs : IsI 0 w1 s) => lunitedI hq hu hv hs (by have := LB.out; omega) (by have := LA.out; omega) true (uniR_eq Hvalidb.out Hvalida.out (union_comm (ok_iff.1 Hvalidb.out) (ok_iff.1 Hvalida.out))))) ?_
      refine MDerR.step (Ob.not (Wanted.on 6 4) (Has.new 10 0)) ?_
      refine MDerR.step (Ob.pickF Wanted.free (Has.new 6 5) (Has.new 11 0)) ?_
      refine MDerR.step (Ob.move Wanted.free (Has.new 12 0)) ?_
      refine MDerR.step (Ob.load (F := IsCon (unionC a b)) (Wanted.on 13 0) Has.oldIs (fun w1 v hb1 hv => Bu.out.loadI hb1 hv)) ?_
      refine MDerR.step (Ob.loadV (Wanted.on 13 1) Has.oldIs (fun w1 hb1 => load_dot hb1 E0.out E1.out)) ?_
      refine MDerR.step (Ob.call2 (Wanted.on 13 2) entHas (Has.new 14 1) (Has.new 15 0) (fun w1 u v hb1 (hu : IsCon (unionC a b) w1 u) (hv : IsDot (x, y) w1 v) => chasI hu hv (true) (by rw [has_union (ok_iff.1 Hvalida.out) (ok_iff.1 Hvalidb.out), HAS.out]; rfl))) ?_
      refine MDerR.step (Ob.load (F := IsCon a) (Wanted.on 13 3) Has.oldIs (fun w1 v hb1 hv => Ga.out.loadI hb1 hv)) ?_
      refine MDerR.step (Ob.loadV (Wanted.on 13 4) Has.oldIs (fun w1 hb1 => load_dot hb1 E0.out E1.out)) ?_
      refine MDerR.step (Ob.call2 (Wanted.on 13 5) entHas (Has.new 17 1) (Has.new 18 0) (fun w1 u v hb1 (hu : IsCon a w1 u) (hv : IsDot (x, y) w1 v) => chasI hu hv true HAS.out)) ?_
      refine MDerR.step (Ob.move (Wanted.on 13 6) (Has.new 19 0)) ?_
      refine MDerR.step (Ob.off 20 0) ?_
      refine MDerR.step (Ob.off 20 1) ?_
      refine MDerR.step (Ob.off 20 2) ?_
      refine MDerR.step (Ob.pickT (Wanted.on 13 10) (Has.new 20 3) (Has.cst _)) ?_
      refine MDerR.step (Ob.binV (Wanted.on 13 11) (Has.new 16 8) (Has.new 24 0) (fun w1 => bool_neq false (by simp))) ?_
      refine MDerR.step (Ob.pickF Wanted.free (Has.new 13 12) (Has.new 25 0)) ?_
      refine MDerR.step (Ob.move Wanted.free (Has.new 26 0)) ?_
      refine MDerR.step (Ob.load (F := IsCon a) (Wanted.on 27 0) Has.oldIs (fun w1 v hb1 hv => Ga.out.loadI hb1 hv)) ?_
      refine MDerR.step (Ob.load (F := IsCon (unionC a b)) (Wanted.on 27 1) Has.oldIs (fun w1 v hb1 hv => Bu.out.loadI hb1 hv)) ?_
      refine MDerR.step (Ob.call4 (Wanted.on 27 2) entLwithin (Has.new 28 1) (Has.new 29 0) (Has.cst _) (Has.cst _) (fun w1 q u v s hb1 (hq : IsCon a w1 q) (hu : IsCon (unionC a b) w1 u) (hv : Is (.bool true) w1 v) (hs : IsI 0 w1 s) => lwithinI hq hu hv hs (by have := LA.out; omega) (by have := LAB.out; omega) true (winR_in Hvalida.out Hvalidb.out))) ?_
      refine MDerR.step (Ob.not (Wanted.on 27 3) (Has.new 30 0)) ?_
      refine MDerR.step (Ob.pickF Wanted.free (Has.new 27 4) (Has.new 31 0)) ?_
      simp only [MDerR, dstsOf, List.map, EndM, List.reverse_cons, List.reverse_nil, List.nil_append, List.cons_append]
      intro wE hE
      iterate 7 (rintro _ rfl)
      rintro _ _h7
      rintro _ _h8
      rintro _ _h9
      iterate 4 (rintro _ rfl)
      rintro _ _h14
      iterate 2 (rintro _ rfl)
      rintro _ _h17
      iterate 10 (rintro _ rfl)
      rintro _ _h28
      rintro _ _h29
      iterate 3 (rintro _ rfl)
      simp only [Act.put, List.setIfInBounds_toArray, List.set_cons_zero, List.set_cons_succ]
      have g14 := Lib.hid (g13.out.le hE)
      have Bp' := Lib.hid (Bp.out.mono hE); clear Bp; have Bp := Bp'; clear Bp'
      have Bq' := Lib.hid (Bq.out.mono hE); clear Bq; have Bq := Bq'; clear Bq'
      have Bu' := Lib.hid (Bu.out.mono hE); clear Bu; have Bu := Bu'; clear Bu'
      have Bv' := Lib.hid (Bv.out.mono hE); clear Bv; have Bv := Bv'; clear Bv'
      clear g13 E0 E1 Ga Gb
      generalize wE = w14 at *
      clear hE
      have x0 := Bu.out.c0; have y0 := Bu.out.c1
      have x1 := (BC.out.mono g14.out).c0; have y1 := (BC.out.mono g14.out).c1
      go_wp2_with fail
      refine (iunionI (a := unionC a b) (b := c) Bu.out.is (BC.out.mono g14.out).is (by have := LAB.out; omega) (by have := LC.out; omega) (union_valid Hvalida.out Hvalidb.out) Hvalidc.out).mono ?_
      rintro _ w15 ⟨_, rfl, hb, _, rfl, Cz, iz, ciz, Dz, jz, cjz, rfl, r1, r2, _⟩
      have hal : Below w15.heap.size w15 (w15.alloc (conBox Cz iz ciz Dz jz cjz)) := (Below.refl _ _).alloc (Nat.le_refl _) _
      have Bz := Lib.hid (Boxed.new (c := (unionC (unionC a b) c)) ⟨r1.asDots, r2.asDots⟩ : Boxed w15.heap.size Cz Dz iz ciz jz cjz (unionC (unionC a b) c) (w15.alloc (conBox Cz iz ciz Dz jz cjz)))
      have gr15 := Lib.hid (g14.out.le hb)
      have g15 := Lib.hid (gr15.out.le hal)
      have hz15 : w.heap.size + 3 < w15.heap.size := by have h1 := gr15.out.size; have h2 := World.block_lt_of_cell? W _ D0.out; simp only at h2; omega
      have Bpr := Lib.hid (Bp.out.mono hb); have Bp' := Lib.hid (Bpr.out.mono hal); clear Bp; have Bp := Bp'; clear Bp'
      have hsp := Bpr.out.size
      have Bqr := Lib.hid (Bq.out.mono hb); have Bq' := Lib.hid (Bqr.out.mono hal); clear Bq; have Bq := Bq'; clear Bq'
      have hsq := Bqr.out.size
      have Bur := Lib.hid (Bu.out.mono hb); have Bu' := Lib.hid (Bur.out.mono hal); clear Bu; have Bu := Bu'; clear Bu'
      have hsu := Bur.out.size
      have Bvr := Lib.hid (Bv.out.mono hb); have Bv' := Lib.hid (Bvr.out.mono hal); clear Bv; have Bv := Bv'; clear Bv'
      have hsv := Bvr.out.size
      clear hal r1 r2 hb x0 y0 x1 y1
      clear g14
      have x0 := (BA.out.mono g15.out).c0; have y0 := (BA.out.mono g15.out).c1
      have xr0 := (BA.out.mono gr15.out).c0; have yr0 := (BA.out.mono gr15.out).c1
      have x1 := Bv.out.c0; have y1 := Bv.out.c1
      have xr1 := Bvr.out.c0; have yr1 := Bvr.out.c1
      have x2 := Bz.out.c0; have y2 := Bz.out.c1
      go_wp2_with fail
      refine (lunitedI (a := a) (b := unionC b c) (d := unionC (unionC a b) c) (BA.out.mono g15.out).is Bv.out.is Bz.out.is rfl (by have := LA.out; omega) (by have := LBC.out; omega) true (uniR_eq Hvalida.out (union_valid Hvalidb.out Hvalidc.out) (union_assoc (ok_iff.1 Hvalida.out) (ok_iff.1 Hvalidb.out) (ok_iff.1 Hvalidc.out)))).mono ?_
      rintro _ w16 ⟨_, rfl, hb, rfl⟩
      have g16 := Lib.hid (g15.out.le hb)
      have Bp' := Lib.hid (Bp.out.mono hb); clear Bp; have Bp := Bp'; clear Bp'
      have Bq' := Lib.hid (Bq.out.mono hb); clear Bq; have Bq := Bq'; clear Bq'
      have Bu' := Lib.hid (Bu.out.mono hb); clear Bu; have Bu := Bu'; clear Bu'
      have Bv' := Lib.hid (Bv.out.mono hb); clear Bv; have Bv := Bv'; clear Bv'
      have Bz' := Lib.hid (Bz.out.mono hb); clear Bz; have Bz := Bz'; clear Bz'
      clear hb g15 x0 y0 xr0 yr0 x1 y1 xr1 yr1 x2 y2 gr15
      have HBK := Lib.hid (BW.out.le g16.out)
      go_wp2_with fail
      refine (known_ _).mono ?_
      rintro _ w9 ⟨_, rfl, hb9, rfl⟩
      have HB9 := Lib.hid (HBK.out.le hb9)
      clear hb9
      go_wp2
      go_ret
      exact retB rfl HB9.out
end Go.Proofs.Ytdngechnelemlaa

/-
  ContextHolds: of any context, any dot and any list of dots, with no condition, the law returns true, and its arguments read afterwards as before.
-/
namespace Go.Proofs.Ytdngechnelemlaa
open Go.ChangeShapes Go.WideShapes Go.ChangeAt Go.RowKit Go.Deep Go.Joins

set_option maxRecDepth 100000 in
theorem contextHolds_lifted (os : Os) (started : os.Started) (H : Type) (enc : TypeId × Value → H) :
    ReturnsInHanded {} Try.checked os 7 .any (Rows.contextHoldsSpec.pre6 enc Try.prog Try.f7 Rows.contextHoldsRow.domain false) (Rows.contextHoldsSpec.post enc Try.prog Try.f7 false true false false) := by
  refine returnsInHanded_of_change (C := Try.checked) own_none started (by kernel_rfl) Try.func7
    (ChangeSpec.witness6 (enc := enc) (C := Try.checked) false ⟨#[], #[.agg #[.slice none 0 0, .slice none 0 0], .agg #[.slice none 0 0, .slice none 0 0], .agg #[.slice none 0 0, .slice none 0 0], .agg #[.int .i64 0, .int .i64 0]], []⟩ 8 (by kernel_rfl) (by kernel_rfl) (by kernel_rfl) (by kernel_rfl)) ?_
  intro W base args ds gs before hval0 hW hcnd _
  have hval : ∀ (j : Nat) t v, Try.f7.params[j]? = some t → args[j]? = some v → Value.okWide Try.prog W .any base t v := hval0
  have hW' := hW
  obtain ⟨p, q, hA0, hV, rfl, hfz, hnd⟩ := hW
  have hA : DataW.TrodAll enc Try.prog W 0 (fun _ => true) true Try.f7.params.toList args.toList ds p := hA0
  rw [Try.params7] at hA hval
  obtain ⟨v0, v1, v2, v3, d0, d1, d2, d3, p0, p1, p2, p3, rfl, rfl, rfl, h0, h1, h2, h3⟩ := trodAll_four hA
  obtain ⟨rfl, rfl⟩ := trodVars_none hV
  obtain ⟨A, n, ca, B, m, cb, c, rfl, hc⟩ := read_con (hval 0 25 v0 rfl rfl) h0
  obtain ⟨A2, n2, ca2, B2, m2, cb2, c2, rfl, hc2⟩ := read_con (hval 1 25 v1 rfl rfl) h1
  obtain ⟨A3, n3, ca3, B3, m3, cb3, c3, rfl, hc3⟩ := read_con (hval 2 25 v2 rfl rfl) h2
  obtain ⟨x, y, rfl, _, _⟩ := read_dot (hval 3 38 v3 rfl rfl) h3
  clear hA0 hval0
  refine (lawHolds A B A2 B2 A3 B3 n ca m cb n2 ca2 m2 cb2 n3 ca3 m3 cb3 c c2 c3 x y W hc hc2 hc3).mono fun e W' ⟨_, he, hb, rfl⟩ => ?_
  subst he
  exact ⟨_, rfl, law_post laid_out (by kernel_rfl) (by kernel_rfl) Try.underlying4 rfl rfl hW' hb⟩

theorem contextHolds_holds : Rows.ContextHoldsSaid :=
  OpenClaim.holds_of_wide 7 Try.f7 rfl rfl rfl rfl rfl rfl rfl ⟨rfl, rfl, rfl, rfl, rfl⟩ rfl rfl rfl rfl rfl (by kernel_rfl) Try.func7 (by kernel_rfl)
    (of_decide_eq_true (by kernel_rfl)) (by unfold Func.isWrapper; first | (rw [if_pos (by decide +kernel)]; kernel_rfl) | (rw [if_neg (by decide +kernel)]; exact ⟨rfl, rfl⟩))
    (fun os started H enc _ => contextHolds_lifted os started H enc)
end Go.Proofs.Ytdngechnelemlaa
