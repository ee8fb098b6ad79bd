/-
  slices.symMergeCmpFunc at numbers: any two sorted halves.
-/
import Derived.Test.YtjddelmhbafelaaGreatDoorXL
import Derived.Test.YtjddelmhbafelaaGreatDoorXD
import Derived.Test.YtjddelmhbafelaaGreatDoorXE
import Derived.Deep.Upon
import Derived.Test.YtjddelmhbafelaaGreatDoorXK
import Derived.Test.YtjddelmhbafelaaGreatDoorXA
import Derived.Test.YtjddelmhbafelaaGreatDoorRows
import Derived.ProofKit
import Derived.WideKeyArgs
import Derived.Deep.SlicePairs
import Derived.Lib.SmallJoins
import Derived.KernelRfl
set_option linter.unusedSectionVars false
set_option linter.unusedVariables false
set_option linter.unusedSimpArgs false
namespace Go.Proofs.YtjddelmhbafelaaGreatDoor
open Go.RowKit Ls
theorem int_subP {x y : Operand} {a c : Int} {w : World} (r : Int) (h : IntKind.i64.wrap (a - c) = r) : (eqGuard .sub 3 x y (.int .i64 a) (.int .i64 c)).run Tryz.prog w = .ok () w ∧ (Go.binOp .sub 3 (.int .i64 a) (.int .i64 c)).run Tryz.prog w = .ok (.int .i64 r) w := by subst h; simp [go_sem]
theorem srt_same {lt : Int → Int → Prop} {f k : Nat → Int} {a b : Nat} (h : Srt lt f a b) (e : ∀ i, a ≤ i → i < b → k i = f i) : Srt lt k a b := fun i j h1 h2 h3 => by rw [e i h1 (by omega), e j (by omega) h3]; exact h i j h1 h2 h3
theorem cross_same {f k : Nat → Int} {a m b : Nat} (h : Cross f a m b) (hm : a ≤ m) (hb : m ≤ b) (e : ∀ i, a ≤ i → i < b → k i = f i) : Cross k a m b := fun i j h1 h2 h3 h4 => by rw [e i h1 (by omega), e j (by omega) h4]; exact h i j h1 h2 h3 h4
set_option maxRecDepth 100000 in
set_option maxHeartbeats 16000000 in
theorem merge_step {M : Int → Int} {N : Nat} {φ : FuncId} {q : Value} {w0 : World} {g n c z : Nat} (hc : CmpOK M N φ q g w0) (ih : MergeOK M N φ q w0 g n c z) {w : World} {a m b mid lo hi : Nat} {f : Nat → Int} (hba : b - a ≤ z + 1) (hw : Below g w0 w) (h : RowI w g n f) (h1 : a + 1 < m) (h2 : m + 1 < b) (hbn : b ≤ n) (hn : n ≤ 1000) (hv : Oks N n f)
    (hA : Srt (mlt M) f a m) (hB : Srt (mlt M) f m b) (hX : Cross f a m b) (hmid : mid = (a + b) / 2) (hch : (mid < m ∧ lo + b = mid + m ∧ hi = mid) ∨ (m ≤ mid ∧ lo = a ∧ hi = m)) :
    Calls Tryz.prog 38 #[.slice (some ⟨g, 0, none⟩) n c, .int .i64 a, .int .i64 m, .int .i64 b, .func (.func φ) #[] #[q]] w (RetB g w (fun w' => ∃ k, RowI w' g n k ∧ Re f k a b ∧ Srt (mlt M) k a b)) := by
  have z0 : ((m : Int) - (a : Int) == 1) = false := by simp; omega
  have z1 : ((b : Int) - (m : Int) == 1) = false := by simp; omega
  have z2 : ((a : Int) + (b : Int)) / 2 = (mid : Int) := by omega
  obtain ⟨nn, hnn⟩ : ∃ nn, nn = mid + m := ⟨_, rfl⟩
  obtain ⟨p, hp⟩ : ∃ p, p + 1 = nn := ⟨nn - 1, by omega⟩
  have z3 : (mid : Int) + (m : Int) = (nn : Int) := by omega
  have z4 : (nn : Int) - 1 = (p : Int) := by omega
  have ST : Hid (Cut M f nn lo hi lo hi) := Lib.hid ⟨Nat.le_refl _, by omega, Nat.le_refl _, fun p p1 p2 => by omega, fun p p1 p2 => by omega⟩
  have CH := Lib.hid hch; have HC := Lib.hid hc; have IH := Lib.hid ih; have HBA := Lib.hid hba; have HW := Lib.hid hw; have H := Lib.hid h; have H1 := Lib.hid h1; have H2 := Lib.hid h2; have HB := Lib.hid hbn; have HN := Lib.hid hn; have HV := Lib.hid hv; have HA := Lib.hid hA; have HBS := Lib.hid hB; have HX := Lib.hid hX; have HMID := Lib.hid hmid; have HNN := Lib.hid hnn; have HP := Lib.hid hp
  have HAM2 : Hid (a ≤ mid) := Lib.hid (by omega)
  have HMB2 : Hid (mid < b) := Lib.hid (by omega)
  have ba : a ≤ 1000 := by omega
  have bm : m ≤ 1000 := by omega
  have bb : b ≤ 1000 := by omega
  have bmid : mid ≤ 1000 := by omega
  have bnn : nn ≤ 2000 := by omega
  have bp : p ≤ 2000 := by omega
  have blo : lo ≤ 1000 := by omega
  have bhi : hi ≤ 1000 := by omega
  clear hc ih hba hw h h1 h2 hbn hn hv hA hB hX hmid hnn hp
  go_enter Tryz.func38, Tryz.ntmps38
  go_upto_if 140 with fail
  go_cut [20, 21] from 138 (fun s20 s21 wx => s20 = .int .i64 lo ∧ s21 = .int .i64 hi ∧ w = wx)
  case first =>
    rcases hch with ⟨g1, g2, g3⟩ | ⟨g1, g2, g3⟩
    · have z5 : (nn : Int) - (b : Int) = (lo : Int) := by have := HNN.out; omega
      have d0 : decide ((mid : Int) < (m : Int)) = true := decide_eq_true (by omega)
      subst g3
      go_wp2
      go_meet
      case rel => exact ⟨rfl, rfl, rfl⟩
    · have d0 : decide ((mid : Int) < (m : Int)) = false := decide_eq_false (by omega)
      have g4 : ¬ mid < m := by omega
      subst g2
      subst g3
      go_wp2
      go_meet
      case rel => exact ⟨rfl, rfl, rfl⟩
  case rest =>
  obtain ⟨rfl, rfl, rfl⟩ := hcut
  clear hch
  go_wp2
  clear z0 z1 z2 z3 z4
  go_loopw [20, 21] (fun u v wr => ∃ s r : Nat, u = .int .i64 s ∧ v = .int .i64 r ∧ Below w.heap.size w wr ∧ Hid (Cut M f nn lo hi s r)) (fun u v _ => (intOf v).toNat - (intOf u).toNat)
  case atStart => exact ⟨lo, hi, rfl, rfl, Below.refl _ _, ST⟩
  case round =>
    clear ST
    obtain ⟨s, r, rfl, rfl, hbw, C⟩ := hrel
    have HBW := Lib.hid hbw
    have bs : s ≤ 1000 := by have := C.out.b; have := C.out.c; omega
    have br : r ≤ 1000 := by have := C.out.c; omega
    clear hbw
    by_cases hlt : s < r
    · obtain ⟨k, hh⟩ : ∃ k, k = (s + r) / 2 := ⟨_, rfl⟩
      have zh : ((s : Int) + (r : Int)) / 2 = (k : Int) := by omega
      have hi1 : s ≤ k := by omega
      have hj1 : k < r := by omega
      have c1 := C.out.a; have c2 := C.out.c; have ch := CH.out; have e1 := HNN.out; have e2 := HP.out; have e3 := H1.out; have e4 := H2.out; have e5 := HB.out; have e6 := HMID.out
      obtain ⟨pc, hpc⟩ : ∃ pc, pc + k = p := ⟨p - k, by omega⟩
      have zp : (p : Int) - (k : Int) = (pc : Int) := by omega
      have hpn : pc < n := by omega
      have hkn : k < n := by omega
      have PW : IntKind.i64.wrap ((p : Int) - (k : Int)) = (pc : Int) := by rw [IntKind.wrap_i64]; omega
      obtain ⟨x, hx⟩ : ∃ x, x = f pc := ⟨_, rfl⟩
      obtain ⟨y, hy⟩ : ∃ y, y = f k := ⟨_, rfl⟩
      have hyx : y < x := by rw [hx, hy]; exact HX.out k pc (by omega) (by omega) (by omega) (by omega)
      have vx := HV.out pc hpn; have vy := HV.out k hkn
      have R := H.out.mono HBW.out
      have ca := R.cell pc hpn; have cb := R.cell k hkn
      rw [← hx] at ca vx
      rw [← hy] at cb vy
      have epc : pc = nn - 1 - k := by omega
      have CA := Lib.hid ca; have CB := Lib.hid cb
      have EN := Lib.hid HC.out.enters
      have CC := Lib.hid (fun w1 (hb1 : Below wr.heap.size wr w1) => HC.out.calls w1 ((HW.out.trans (HBW.out.mono (Nat.le_of_lt H.out.lt))).trans (hb1.mono (Nat.le_of_lt R.lt))) x y vx.1 vx.2 vy.1 vy.2)
      have UP : Hid (mlt M y x → Cut M f nn lo hi (k + 1) r) := Lib.hid (fun hl => C.out.up HA.out HBS.out hi1 hj1 (by omega) (by omega) (by omega) (by omega) (by rw [← epc, ← hx, ← hy]; exact hl))
      have DN : Hid (mlt M x y → Cut M f nn lo hi s k) := Lib.hid (fun hl => C.out.down HA.out HBS.out hi1 hj1 (by omega) (by omega) (by omega) (by omega) (by rw [← epc, ← hx, ← hy]; exact hl))
      have LT := Lib.hid (mlt_back (M := M) hyx); have FO := Lib.hid (mlt_fore (M := M) hyx)
      have HH1 := Lib.hid hi1; have HH2 := Lib.hid hj1
      have bk : k ≤ 1000 := by omega
      have bpc : pc ≤ 1000 := by omega
      clear R ca cb vx vy hyx c1 c2 ch e1 e2 e3 e4 e5 e6 hh hx hy epc hpc
      by_cases hl : M x < M y
      · have HD := Lib.hid (show decide (cmpJ (M x) (M y) < 0) = true from decide_eq_true (cmpJ_lt.2 hl))
        have F2 := Lib.hid (DN.out (LT.out.2 hl))
        clear hl hi1 hj1 zp
        go_wp2_with fail
        refine wp_region_M mixed (by kernel_rfl) ?_
        refine MDerR.step (Ob.move Wanted.free Has.oldIs) ?_
        refine MDerR.step (Ob.move Wanted.free Has.oldIs) ?_
        refine MDerR.step (Ob.move Wanted.free Has.oldIs) ?_
        refine MDerR.step (Ob.move Wanted.free Has.oldIs) ?_
        refine MDerR.step (Ob.binV Wanted.free (Has.new 2 1) (Has.new 3 0) (fun w1 => int_subP _ PW)) ?_
        refine MDerR.step (Ob.indexV Wanted.free (Has.new 1 3) (Has.new 4 0) (fun w1 => index_row hpn)) ?_
        refine MDerR.step (Ob.loadV Wanted.free (Has.new 5 0) (fun w1 hb1 => load_int hb1 CA.out)) ?_
        refine MDerR.step (Ob.move Wanted.free Has.oldIs) ?_
        refine MDerR.step (Ob.move Wanted.free Has.oldIs) ?_
        refine MDerR.step (Ob.indexV Wanted.free (Has.new 7 1) (Has.new 8 0) (fun w1 => index_row hkn)) ?_
        refine MDerR.step (Ob.loadV Wanted.free (Has.new 9 0) (fun w1 hb1 => load_int hb1 CB.out)) ?_
        refine MDerR.step (Ob.callF2 Wanted.free (Has.new 0 10) (Has.new 6 4) (Has.new 10 0) EN.out (fun w1 hb1 => CC.out w1 hb1)) ?_
        refine MDerR.step (Ob.binV Wanted.free (Has.new 11 0) (Has.cst _) (fun w1 => int_lss true HD.out)) ?_
        refine MDerR.step (Ob.not Wanted.free (Has.new 12 0)) ?_
        simp only [MDerR, dstsOf, List.map, EndM, List.reverse_cons, List.reverse_nil, List.nil_append, List.cons_append]
        intro wE hE
        iterate 14 (rintro _ rfl)
        simp only [Act.put, List.setIfInBounds_toArray, List.set_cons_zero, List.set_cons_succ]
        have HE := Lib.hid (HBW.out.le hE)
        clear hE
        simp only [Bool.not_true]
        go_wp2
        go_roundw
        case rel => exact ⟨s, k, rfl, rfl, HE.out, F2⟩
        case measure => have := HH1.out; have := HH2.out; simp [intOf]; omega
      · have HD := Lib.hid (show decide (cmpJ (M x) (M y) < 0) = false from decide_eq_false (fun e => hl (cmpJ_lt.1 e)))
        have F2 := Lib.hid (UP.out (FO.out.2 hl))
        clear hl hi1 hj1 zp
        go_wp2_with fail
        refine wp_region_M mixed (by kernel_rfl) ?_
        refine MDerR.step (Ob.move Wanted.free Has.oldIs) ?_
        refine MDerR.step (Ob.move Wanted.free Has.oldIs) ?_
        refine MDerR.step (Ob.move Wanted.free Has.oldIs) ?_
        refine MDerR.step (Ob.move Wanted.free Has.oldIs) ?_
        refine MDerR.step (Ob.binV Wanted.free (Has.new 2 1) (Has.new 3 0) (fun w1 => int_subP _ PW)) ?_
        refine MDerR.step (Ob.indexV Wanted.free (Has.new 1 3) (Has.new 4 0) (fun w1 => index_row hpn)) ?_
        refine MDerR.step (Ob.loadV Wanted.free (Has.new 5 0) (fun w1 hb1 => load_int hb1 CA.out)) ?_
        refine MDerR.step (Ob.move Wanted.free Has.oldIs) ?_
        refine MDerR.step (Ob.move Wanted.free Has.oldIs) ?_
        refine MDerR.step (Ob.indexV Wanted.free (Has.new 7 1) (Has.new 8 0) (fun w1 => index_row hkn)) ?_
        refine MDerR.step (Ob.loadV Wanted.free (Has.new 9 0) (fun w1 hb1 => load_int hb1 CB.out)) ?_
        refine MDerR.step (Ob.callF2 Wanted.free (Has.new 0 10) (Has.new 6 4) (Has.new 10 0) EN.out (fun w1 hb1 => CC.out w1 hb1)) ?_
        refine MDerR.step (Ob.binV Wanted.free (Has.new 11 0) (Has.cst _) (fun w1 => int_lss false HD.out)) ?_
        refine MDerR.step (Ob.not Wanted.free (Has.new 12 0)) ?_
        simp only [MDerR, dstsOf, List.map, EndM, List.reverse_cons, List.reverse_nil, List.nil_append, List.cons_append]
        intro wE hE
        iterate 14 (rintro _ rfl)
        simp only [Act.put, List.setIfInBounds_toArray, List.set_cons_zero, List.set_cons_succ]
        have HE := Lib.hid (HBW.out.le hE)
        clear hE
        simp only [Bool.not_false]
        go_wp2
        go_roundw
        case rel => exact ⟨k + 1, r, by simp, rfl, HE.out, F2⟩
        case measure => have := HH1.out; have := HH2.out; simp [intOf]; omega
    · have hsr : s = r := by have := C.out.b; omega
      subst hsr
      have c1 := C.out.a; have c2 := C.out.c; have ch := CH.out; have e1 := HNN.out; have e3 := H1.out; have e4 := H2.out; have e5 := HB.out; have e6 := HMID.out
      obtain ⟨en, hen⟩ : ∃ en, en = mid + m - s := ⟨_, rfl⟩
      have ze : (nn : Int) - (s : Int) = (en : Int) := by omega
      have P2 : Hid (Parts2 M f (rot f s m (mid + m - s)) a m b mid s) := Lib.hid (parts2 (lo := lo) (hi := hi) (by omega) (by omega) e6 HA.out HBS.out HX.out (by omega) (by omega) (by omega) (by omega) (by omega) (by omega) (by rw [← e1]; exact C.out))
      have HS0 : Hid (a ≤ s) := Lib.hid (by omega)
      have HS1 : Hid (s ≤ m) := Lib.hid (by omega)
      have HS2 : Hid (s ≤ mid) := Lib.hid (by omega)
      have HS3 : Hid (en ≤ b) := Lib.hid (by omega)
      have ben : en ≤ 1000 := by omega
      obtain ⟨k, hk⟩ : ∃ k, k = rot f s m (mid + m - s) := ⟨_, rfl⟩
      rw [← hk] at P2
      have HEN := Lib.hid hen; have HK := Lib.hid hk
      have PM : Hid (s < mid + 1 ∧ lo ≤ s) := Lib.hid (by omega)
      clear c1 c2 ch e1 e3 e4 e5 e6 hlt br hen hk
      -- the rotation
      go_upto_region 39 with fail
      go_cut [185] from 178 (fun t wx => t = .bool (decide (s < m ∧ m < en)) ∧ wr = wx)
      case first =>
        by_cases q1 : s < m
        · have d3 : decide ((s : Int) < (m : Int)) = true := decide_eq_true (by omega)
          by_cases q2 : m < en
          · have d4 : decide ((m : Int) < (en : Int)) = true := decide_eq_true (by omega)
            go_wp2
            go_meet
            case rel => exact ⟨by simp [q1, q2], rfl⟩
          · have d4 : decide ((m : Int) < (en : Int)) = false := decide_eq_false (by omega)
            go_wp2
            go_meet
            case rel => exact ⟨by simp [q1, q2], rfl⟩
        · have d3 : decide ((s : Int) < (m : Int)) = false := decide_eq_false (by omega)
          go_wp2
          go_meet
          case rel => exact ⟨by simp [q1], rfl⟩
      case rest =>
      obtain ⟨rfl, rfl⟩ := hcut
      go_upto_if 185 with fail
      go_cut [] from 178 (fun wx => Hid (Below g w wx) ∧ Hid (RowI wx g n k))
      case first =>
        by_cases hro : s < m ∧ m < en
        · have CRO := Lib.hid (cRotate (c := c) (a := s) (m := m) (b := en) (.func (.func φ) #[] #[q]) (H.out.mono HBW.out) hro.1 hro.2 (Nat.le_trans HS3.out HB.out) HN.out)
          rw [HEN.out, ← HK.out, ← HEN.out] at CRO
          have dt : decide (s < m ∧ m < en) = true := decide_eq_true hro
          rw [dt]
          clear hro dt
          go_wp2_with fail
          refine CRO.out.mono ?_
          rintro _ wA ⟨rfl, hbA, rA⟩
          have HBA1 := Lib.hid ((HBW.out.mono (Nat.le_of_lt H.out.lt)).trans hbA); have RA := Lib.hid rA
          clear hbA rA
          go_wp2
          go_meet
          case rel => exact ⟨HBA1, RA⟩
        · have RA : Hid (RowI wr g n k) := Lib.hid (by rw [HK.out, rot_cut (by rw [← HEN.out]; exact hro) HS1.out HS2.out]; exact H.out.mono HBW.out)
          have HBA1 := Lib.hid (HBW.out.mono (Nat.le_of_lt H.out.lt))
          have dt : decide (s < m ∧ m < en) = false := decide_eq_false hro
          rw [dt]
          clear hro dt
          go_wp2
          go_meet
          case rel => exact ⟨HBA1, RA⟩
      case rest =>
      obtain ⟨HBA1, RA⟩ := hcut
      -- the first part
      go_upto_region 41 with fail
      go_cut [199] from 178 (fun t wx => t = .bool (decide (a < s ∧ s < mid)) ∧ wc = wx)
      case first =>
        by_cases q1 : a < s
        · have d3 : decide ((a : Int) < (s : Int)) = true := decide_eq_true (by omega)
          by_cases q2 : s < mid
          · have d4 : decide ((s : Int) < (mid : Int)) = true := decide_eq_true (by omega)
            go_wp2
            go_meet
            case rel => exact ⟨by simp [q1, q2], rfl⟩
          · have d4 : decide ((s : Int) < (mid : Int)) = false := decide_eq_false (by omega)
            go_wp2
            go_meet
            case rel => exact ⟨by simp [q1, q2], rfl⟩
        · have d3 : decide ((a : Int) < (s : Int)) = false := decide_eq_false (by omega)
          go_wp2
          go_meet
          case rel => exact ⟨by simp [q1], rfl⟩
      case rest =>
      obtain ⟨rfl, rfl⟩ := hcut
      go_upto_if 199 with fail
      go_cut [] from 178 (fun wx => ∃ k1, Hid (Below g w wx) ∧ Hid (RowI wx g n k1) ∧ Hid (Re k k1 a mid) ∧ Hid (Srt (mlt M) k1 a mid))
      case first =>
        by_cases hl : a < s ∧ s < mid
        · have CL := Lib.hid (IH.out wc a s mid k (by have := HBA.out; have := HMB2.out; omega) (HW.out.trans HBA1.out) RA.out hl.1 hl.2 (Nat.le_trans (Nat.le_of_lt HMB2.out) HB.out) HN.out (HV.out.re P2.out.re HB.out) P2.out.sL1 P2.out.sL2 P2.out.xL)
          have dt : decide (a < s ∧ s < mid) = true := decide_eq_true hl
          rw [dt]
          clear hl dt
          go_wp2_with fail
          refine CL.out.mono ?_
          rintro _ wB ⟨rfl, hbB, k1, rB, reB, sB⟩
          have HBB := Lib.hid (HBA1.out.trans hbB); have RB := Lib.hid rB; have REB := Lib.hid reB; have SB := Lib.hid sB
          clear hbB rB reB sB
          go_wp2
          go_meet
          case rel => exact ⟨k1, HBB, RB, REB, SB⟩
        · have SB : Hid (Srt (mlt M) k a mid) := Lib.hid (by
            have h4 := HS1.out; have h5 := HS2.out; have h6 := HS0.out
            by_cases e : a < s
            · have e2 : s = mid := by omega
              have := P2.out.sL1
              rw [e2] at this; exact this
            · have e2 : s = a := by omega
              have := P2.out.sL2
              rw [e2] at this; exact this)
          have REB : Hid (Re k k a mid) := Lib.hid (Re.refl _ _ _)
          have dt : decide (a < s ∧ s < mid) = false := decide_eq_false hl
          rw [dt]
          clear hl dt
          go_wp2
          go_meet
          case rel => exact ⟨k, HBA1, RA, REB, SB⟩
      case rest =>
      obtain ⟨k1, HBB, RB, REB, SB⟩ := hcut
      -- the second part
      go_upto_region 43 with fail
      go_cut [213] from 178 (fun t wx => t = .bool (decide (mid < en ∧ en < b)) ∧ wc = wx)
      case first =>
        by_cases q1 : mid < en
        · have d3 : decide ((mid : Int) < (en : Int)) = true := decide_eq_true (by omega)
          by_cases q2 : en < b
          · have d4 : decide ((en : Int) < (b : Int)) = true := decide_eq_true (by omega)
            go_wp2
            go_meet
            case rel => exact ⟨by simp [q1, q2], rfl⟩
          · have d4 : decide ((en : Int) < (b : Int)) = false := decide_eq_false (by omega)
            go_wp2
            go_meet
            case rel => exact ⟨by simp [q1, q2], rfl⟩
        · have d3 : decide ((mid : Int) < (en : Int)) = false := decide_eq_false (by omega)
          go_wp2
          go_meet
          case rel => exact ⟨by simp [q1], rfl⟩
      case rest =>
      obtain ⟨rfl, rfl⟩ := hcut
      go_upto_if 213 with fail
      by_cases hr : mid < en ∧ en < b
      · have CR := Lib.hid (IH.out wc mid en b k1 (by have := HBA.out; have := HMID.out; have := H1.out; have := H2.out; omega) (HW.out.trans HBB.out) RB.out hr.1 hr.2 HB.out HN.out (HV.out.re (P2.out.re.trans (REB.out.wide (Nat.le_refl _) (Nat.le_of_lt HMB2.out))) HB.out)
          (srt_same (by rw [HEN.out]; exact P2.out.sR1) (fun i h1 h2 => REB.out.out i (.inr h1))) (srt_same (by rw [HEN.out]; exact P2.out.sR2) (fun i h1 h2 => REB.out.out i (.inr (by omega)))) (cross_same (by rw [HEN.out]; exact P2.out.xR) (by omega) (by omega) (fun i h1 h2 => REB.out.out i (.inr h1))))
        have dt : decide (mid < en ∧ en < b) = true := decide_eq_true hr
        rw [dt]
        clear hr dt
        go_wp2_with fail
        refine CR.out.mono ?_
        rintro _ wC ⟨rfl, hbC, k2, rC, reC, sC⟩
        have FIN : Hid (Below g w wC ∧ RowI wC g n k2 ∧ Re f k2 a b ∧ Srt (mlt M) k2 a b) := Lib.hid ⟨HBB.out.trans hbC, rC, (P2.out.re.trans (REB.out.wide (Nat.le_refl _) (Nat.le_of_lt HMB2.out))).trans (reC.wide HAM2.out (Nat.le_refl _)), srt_join HAM2.out (Nat.le_of_lt HMB2.out) REB.out SB.out reC sC P2.out.lt⟩
        clear hbC rC reC sC
        go_wp2
        refine bodyPost_ret (v := .tuple #[]) (by simp [results, Tryz.results38, go_sem]) rfl ?_
        exact ⟨rfl, FIN.out.1, k2, FIN.out.2⟩
      · have sC : Srt (mlt M) k1 mid b := by
          have h3 := HEN.out; have h4 := HS3.out; have h5 := HS1.out; have h6 := HS2.out
          by_cases e : mid < en
          · have e2 : mid + m - s = b := by omega
            have := P2.out.sR1
            rw [e2] at this
            exact srt_same this (fun i h1 h2 => REB.out.out i (.inr h1))
          · have e2 : mid + m - s = mid := by omega
            have := P2.out.sR2
            rw [e2] at this
            exact srt_same this (fun i h1 h2 => REB.out.out i (.inr (by omega)))
        have FIN : Hid (Below g w wc ∧ RowI wc g n k1 ∧ Re f k1 a b ∧ Srt (mlt M) k1 a b) := Lib.hid ⟨HBB.out, RB.out, P2.out.re.trans (REB.out.wide (Nat.le_refl _) (Nat.le_of_lt HMB2.out)), srt_join HAM2.out (Nat.le_of_lt HMB2.out) REB.out SB.out (Re.refl _ _ _) sC P2.out.lt⟩
        have dt : decide (mid < en ∧ en < b) = false := decide_eq_false hr
        rw [dt]
        clear sC hr dt
        go_wp2
        refine bodyPost_ret (v := .tuple #[]) (by simp [results, Tryz.results38, go_sem]) rfl ?_
        exact ⟨rfl, FIN.out.1, k1, FIN.out.2⟩
theorem cSymMerge {M : Int → Int} {N : Nat} {φ : FuncId} {q : Value} {w0 : World} {g n c : Nat} (hc : CmpOK M N φ q g w0) : ∀ s, MergeOK M N φ q w0 g n c s
  | 0 => fun w a m b f hba _ _ h1 h2 => by omega
  | z + 1 => fun w a m b f hba hw h h1 h2 hbn hn hv hA hB hX => by
    by_cases e1 : m = a + 1
    · subst e1; exact cMergeL hc hw h h2 hbn hn hv hB hX
    · by_cases e2 : b = m + 1
      · subst e2; exact cMergeR hc hw h (by omega) hbn hn hv hA hX
      · by_cases e3 : (a + b) / 2 < m
        · exact merge_step hc (cSymMerge hc z) hba hw h (by omega) (by omega) hbn hn hv hA hB hX rfl (lo := (a + b) / 2 + m - b) (hi := (a + b) / 2) (.inl ⟨e3, by omega, rfl⟩)
        · exact merge_step hc (cSymMerge hc z) hba hw h (by omega) (by omega) hbn hn hv hA hB hX rfl (lo := a) (hi := m) (.inr ⟨by omega, rfl, rfl⟩)
end Go.Proofs.YtjddelmhbafelaaGreatDoor

/-
  Blocks of twenty, then of twice as many: the plain side of the sort.
-/
namespace Go.Proofs.YtjddelmhbafelaaGreatDoor
open Go.RowKit
namespace Ls
/-- Blocks of twenty in front of 20 t, each number by itself behind. -/
def cA (t i : Nat) : Nat := if i < 20 * t then i / 20 * 20 else i
/-- Blocks of twice bs in front of a, of bs behind. -/
def cB (bs a i : Nat) : Nat := if i < a then i / (2 * bs) * (2 * bs) else i / bs * bs
section
variable {M : Int → Int} {f0 k k' : Nat → Int} {n t : Nat}
theorem cA_lo {i : Nat} (h : i < 20 * t) : cA t i = i / 20 * 20 := by unfold cA; rw [if_pos h]
theorem cA_hi {i : Nat} (h : 20 * t ≤ i) : cA t i = i := by unfold cA; rw [if_neg (by omega)]
theorem cA_mono {i j : Nat} (h : cA t i < cA t j) : i < j := by unfold cA at h; split at h <;> split at h <;> omega
theorem blk_same (B : Blks (mlt M) f0 k n (cA t)) {i : Nat} (h : 20 * t ≤ i) (hi : i < n) : k i = f0 i := by
  obtain ⟨j, j1, j2, j3⟩ := B.from_ i hi
  rw [cA_hi h] at j2
  have : j = i := by
    by_cases e : j < 20 * t
    · rw [cA_lo e] at j2; omega
    · rw [cA_hi (by omega)] at j2; exact j2
  rw [← j3, this]
theorem blk_inc (B : Blks (mlt M) f0 k n (cA t)) (h0 : Srt (· < ·) f0 0 n) {b : Nat} (hb : b ≤ n) : Srt (· < ·) k (20 * t) b := fun i j h1 h2 h3 => by
  rw [blk_same B h1 (by omega), blk_same B (by omega) (by omega)]; exact h0 i j (Nat.zero_le _) h2 (by omega)
theorem blk_start (f : Nat → Int) (n : Nat) : Blks (mlt M) f f n (cA 0) := Blks.start f n (fun i j h1 h2 h => by rw [cA_hi (by omega), cA_hi (by omega)] at h; exact h)
theorem blk_next (B : Blks (mlt M) f0 k n (cA t)) (hb : 20 * t + 20 ≤ n) (r : Re k k' (20 * t) (20 * t + 20)) (s : Srt (mlt M) k' (20 * t) (20 * t + 20)) : Blks (mlt M) f0 k' n (cA (t + 1)) :=
  B.step r s hb (κ := 20 * t) (fun i h1 h2 h3 => by rw [cA_lo (by omega)]; omega) (fun i h1 h2 => by
    rcases h2 with h2 | h2
    · rw [cA_lo (by omega), cA_lo h2]; omega
    · rw [cA_hi (by omega), cA_hi (by omega)]; omega)
    (fun i j h1 h2 h3 h4 h5 => by
      rw [cA_hi h4] at h3
      by_cases e : j < 20 * t
      · rw [cA_lo e] at h3; omega
      · rw [cA_hi (by omega)] at h3; omega)
theorem blk_last (B : Blks (mlt M) f0 k n (cA t)) (h1 : 20 * t ≤ n) (h2 : n < 20 * t + 20) (r : Re k k' (20 * t) n) (s : Srt (mlt M) k' (20 * t) n) : Blks (mlt M) f0 k' n (cB 20 0) :=
  B.step r s (Nat.le_refl _) (κ := 20 * t) (fun i h3 h4 h5 => by unfold cB; rw [if_neg (by omega)]; omega) (fun i h3 h4 => by
    rcases h4 with h4 | h4
    · rw [cA_lo h4]; unfold cB; rw [if_neg (by omega)]; omega
    · omega)
    (fun i j h3 h4 h5 h6 h7 => by
      rw [cA_hi h6] at h5
      by_cases e : j < 20 * t
      · rw [cA_lo e] at h5; omega
      · rw [cA_hi (by omega)] at h5; omega)
end
section
variable {M : Int → Int} {f0 k k' : Nat → Int} {n t bs a : Nat}
theorem cB_mono (hb : bs = 20 ∨ bs = 40) (ha : a = 2 * bs * t) {i j : Nat} (h : cB bs a i < cB bs a j) : i < j := by
  rcases hb with rfl | rfl <;> unfold cB at h <;> split at h <;> split at h <;> omega
theorem mrg_pre (hb : bs = 20 ∨ bs = 40) (ha : a = 2 * bs * t) (B : Blks (mlt M) f0 k n (cB bs a)) (h0 : Srt (· < ·) f0 0 n) {e : Nat} (h1 : a + bs < e) (h2 : e ≤ a + 2 * bs) (h3 : e ≤ n) : Srt (mlt M) k a (a + bs) ∧ Srt (mlt M) k (a + bs) e ∧ Cross k a (a + bs) e := by
  have lo : ∀ i, a ≤ i → i < a + bs → cB bs a i = a := fun i p q => by
    unfold cB; rw [if_neg (by omega)]
    rcases hb with rfl | rfl <;> omega
  have hi : ∀ i, a + bs ≤ i → i < e → cB bs a i = a + bs := fun i p q => by
    unfold cB; rw [if_neg (by omega)]
    rcases hb with rfl | rfl <;> omega
  exact ⟨B.part (by omega) lo, B.part h3 hi, B.cross h0 (fun i j _ _ h => cB_mono hb ha h) h3 lo hi (by rcases hb with rfl | rfl <;> omega)⟩
theorem mrg_next (hb : bs = 20 ∨ bs = 40) (ha : a = 2 * bs * t) (B : Blks (mlt M) f0 k n (cB bs a)) (h3 : a + 2 * bs ≤ n) (r : Re k k' a (a + 2 * bs)) (s : Srt (mlt M) k' a (a + 2 * bs)) : Blks (mlt M) f0 k' n (cB bs (a + 2 * bs)) := by
  refine B.step r s h3 (κ := a) (fun i p q z => ?_) (fun i p q => ?_) (fun i j p q z x y => ?_)
  · unfold cB; rw [if_pos z]
    rcases hb with rfl | rfl <;> omega
  · rcases q with q | q
    · unfold cB; rw [if_pos (by omega), if_pos q]
      refine ⟨rfl, ?_⟩
      rcases hb with rfl | rfl <;> omega
    · unfold cB; rw [if_neg (by omega), if_neg (by omega)]
      refine ⟨rfl, ?_⟩
      rcases hb with rfl | rfl <;> omega
  · unfold cB at z
    rw [if_neg (by omega)] at z
    rcases hb with rfl | rfl <;> split at z <;> omega
theorem mrg_last (hb : bs = 20 ∨ bs = 40) (ha : a = 2 * bs * t) (B : Blks (mlt M) f0 k n (cB bs a)) (h1 : a ≤ n) (h2 : n < a + 2 * bs) (r : Re k k' a n) (s : Srt (mlt M) k' a n) : Blks (mlt M) f0 k' n (cB (2 * bs) 0) := by
  refine B.step r s (Nat.le_refl _) (κ := a) (fun i p q z => ?_) (fun i p q => ?_) (fun i j p q z x y => ?_)
  · unfold cB; rw [if_neg (by omega)]
    rcases hb with rfl | rfl <;> omega
  · rcases q with q | q
    · unfold cB; rw [if_neg (by omega), if_pos q]
      refine ⟨rfl, ?_⟩
      rcases hb with rfl | rfl <;> omega
    · omega
  · unfold cB at z
    rw [if_neg (by omega)] at z
    rcases hb with rfl | rfl <;> split at z <;> omega
theorem mrg_none (hb : bs = 20 ∨ bs = 40) (ha : a = 2 * bs * t) (B : Blks (mlt M) f0 k n (cB bs a)) (h2 : n ≤ a + bs) : Blks (mlt M) f0 k n (cB (2 * bs) 0) :=
  B.congr (fun i hi => by
    unfold cB; rw [if_neg (by omega)]
    split
    · rfl
    · rcases hb with rfl | rfl <;> omega)
theorem mrg_done (B : Blks (mlt M) f0 k n (cB bs 0)) (h : n ≤ bs) : Srt (mlt M) k 0 n := B.part (Nat.le_refl _) (κ := 0) (fun i _ hi => by
  unfold cB; rw [if_neg (by omega), Nat.div_eq_of_lt (by omega)]; omega)
end
end Ls
end Go.Proofs.YtjddelmhbafelaaGreatDoor

/-
  slices.SortStableFunc at at most sixty numbers.
-/
namespace Go.Proofs.YtjddelmhbafelaaGreatDoor
open Go.RowKit Ls
theorem Oks.blk {M : Int → Int} {N n : Nat} {f k : Nat → Int} {c : Nat → Nat} (h : Oks N n f) (B : Blks (mlt M) f k n c) : Oks N n k := fun i hi => by
  obtain ⟨j, j1, _, j3⟩ := B.from_ i hi
  rw [← j3]; exact h j j1
set_option maxRecDepth 100000 in
set_option maxHeartbeats 8000000 in
theorem cStable {M : Int → Int} {N : Nat} {φ : FuncId} {q : Value} {w0 w : World} {g n c : Nat} {f : Nat → Int} (hc : CmpOK M N φ q g w0) (hw : Below g w0 w) (h : RowI w g n f) (hn : n ≤ 60) (hv : Oks N n f) (h0 : Srt (· < ·) f 0 n) :
    Calls Tryz.prog 25 #[.slice (some ⟨g, 0, none⟩) n c, .int .i64 n, .func (.func φ) #[] #[q]] w (RetB g w (fun w' => ∃ k, RowI w' g n k ∧ (∀ x, In k 0 n x ↔ In f 0 n x) ∧ Srt (mlt M) k 0 n)) := by
  have HC := Lib.hid hc; have HW := Lib.hid hw; have H := Lib.hid h; have HN := Lib.hid hn; have HV := Lib.hid hv; have H0 := Lib.hid h0
  have bn : n ≤ 1000 := by omega
  clear hc hw h hn hv h0
  go_enter Tryz.func25, Tryz.ntmps25
  go_wp2
  go_loopw [7, 8] (fun u v wr => ∃ (t a b : Nat) (k : Nat → Int), u = .int .i64 a ∧ v = .int .i64 b ∧ Hid (a = 20 * t) ∧ Hid (b = a + 20) ∧ a ≤ n ∧ Hid (Below g w wr) ∧ Hid (RowI wr g n k) ∧ Hid (Blks (mlt M) f k n (cA t))) (fun _ v _ => n + 20 - (intOf v).toNat)
  case atStart => exact ⟨0, 0, 20, f, rfl, rfl, Lib.hid rfl, Lib.hid rfl, Nat.zero_le _, Lib.hid (Below.refl _ _), H, Lib.hid (blk_start f n)⟩
  case round =>
    obtain ⟨t, a, b, k, rfl, rfl, EA, EB, han, HB, ROW, BL⟩ := hrel
    have bb : b ≤ 2000 := by have := EB.out; omega
    by_cases hlt : b ≤ n
    · have VK := HV.out.blk BL.out
      have CI := Lib.hid (cInsert (c := c) (a := a) (b := b) HC.out (HW.out.trans HB.out) ROW.out (by have := EB.out; omega) hlt bn VK (by rw [EA.out]; exact blk_inc BL.out H0.out hlt))
      obtain ⟨b2, hb2⟩ : ∃ b2, b2 = b + 20 := ⟨_, rfl⟩
      have zb : (b : Int) + 20 = (b2 : Int) := by omega
      have EB2 := Lib.hid hb2
      have bb2 : b2 ≤ 3000 := by omega
      clear VK hb2
      go_wp2_with fail
      refine CI.out.mono ?_
      rintro _ w1 ⟨rfl, hb1, k1, r1, re1, s1⟩
      have B2 : Hid (Blks (mlt M) f k1 n (cA (t + 1))) := Lib.hid (by
        have e1 := EA.out; have e2 := EB.out
        refine blk_next BL.out (by omega) ?_ ?_
        · rw [← e1, ← e2]; exact re1
        · rw [← e1, ← e2]; exact s1)
      have HB1 := Lib.hid (HB.out.trans hb1); have R1 := Lib.hid r1
      clear hb1 r1 re1 s1
      go_wp2
      go_roundw
      case rel => exact ⟨t + 1, b, b2, k1, rfl, rfl, Lib.hid (by have := EA.out; have := EB.out; omega), EB2, hlt, HB1, R1, B2⟩
      case measure => have := EB2.out; simp [intOf]; omega
    · have VK := HV.out.blk BL.out
      have CI := Lib.hid (cInsert (c := c) (a := a) (b := n) HC.out (HW.out.trans HB.out) ROW.out han (Nat.le_refl _) bn VK (by rw [EA.out]; exact blk_inc BL.out H0.out (Nat.le_refl _)))
      clear VK
      go_wp2_with fail
      refine CI.out.mono ?_
      rintro _ w1 ⟨rfl, hb1, k1, r1, re1, s1⟩
      have B2 : Hid (Blks (mlt M) f k1 n (cB 20 0)) := Lib.hid (by
        have e1 := EA.out; have e2 := EB.out
        refine blk_last BL.out (by omega) (by omega) ?_ ?_
        · rw [← e1]; exact re1
        · rw [← e1]; exact s1)
      have HB1 := Lib.hid (HB.out.trans hb1); have R1 := Lib.hid r1
      clear hb1 r1 re1 s1 hlt BL ROW HB EA EB bb han CI
      go_wp2
      go_loopw [6] (fun u wr2 => ∃ (bs : Nat) (k2 : Nat → Int), u = .int .i64 bs ∧ Hid (bs = 20 ∨ bs = 40 ∨ bs = 80) ∧ Hid (Below g w wr2) ∧ Hid (RowI wr2 g n k2) ∧ Hid (Blks (mlt M) f k2 n (cB bs 0))) (fun u _ => 80 - (intOf u).toNat)
      case atStart => exact ⟨20, k1, rfl, Lib.hid (.inl rfl), HB1, R1, B2⟩
      case round =>
        clear B2 HB1 R1
        obtain ⟨bs, k2, rfl, EBS, HB2, R2, B2⟩ := hrel
        have bbs : bs ≤ 80 := by have := EBS.out; omega
        by_cases hlt : bs < n
        · have EB4 : Hid (bs = 20 ∨ bs = 40) := Lib.hid (by have := EBS.out; have := HN.out; omega)
          obtain ⟨b2, hb2⟩ : ∃ b2, b2 = 2 * bs := ⟨_, rfl⟩
          have z1 : 2 * (bs : Int) = (b2 : Int) := by omega
          have z2 : (bs : Int) * 2 = (b2 : Int) := by omega
          have bb2 : b2 ≤ 160 := by omega
          have EB2 := Lib.hid hb2
          clear hb2
          go_wp2
          go_loopw [7, 8] (fun u v wr3 => ∃ (t a b : Nat) (k3 : Nat → Int), u = .int .i64 a ∧ v = .int .i64 b ∧ Hid (a = 2 * bs * t) ∧ Hid (b = a + 2 * bs) ∧ a ≤ n ∧ Hid (Below g w wr3) ∧ Hid (RowI wr3 g n k3) ∧ Hid (Blks (mlt M) f k3 n (cB bs a))) (fun _ v _ => n + 2 * bs - (intOf v).toNat)
          case atStart => exact ⟨0, 0, b2, k2, rfl, rfl, Lib.hid rfl, Lib.hid (by rw [Nat.zero_add]; exact EB2.out), Nat.zero_le _, HB2, R2, B2⟩
          case round =>
            clear B2 HB2 R2
            obtain ⟨t, a, b, k3, rfl, rfl, EA, EB, han, HB3, R3, B3⟩ := hrel
            have bb : b ≤ 2000 := by have := EB.out; omega
            obtain ⟨m, hm⟩ : ∃ m, m = a + bs := ⟨_, rfl⟩
            have z3 : (a : Int) + (bs : Int) = (m : Int) := by omega
            have bm : m ≤ 2000 := by omega
            have HM := Lib.hid hm
            clear hm
            by_cases hbn : b ≤ n
            · have VK := HV.out.blk B3.out
              obtain ⟨p1, p2, p3⟩ := mrg_pre (e := b) EB4.out EA.out B3.out H0.out (by have := EB.out; have := EB4.out; omega) (by have := EB.out; omega) hbn
              rw [← HM.out] at p1 p2 p3
              have CM := Lib.hid (cSymMerge (c := c) HC.out (b - a) _ a m b k3 (Nat.le_refl _) (HW.out.trans HB3.out) R3.out (by have := HM.out; have := EB4.out; omega) (by have := HM.out; have := EB.out; have := EB4.out; omega) hbn bn VK p1 p2 p3)
              obtain ⟨b4, hb4⟩ : ∃ b4, b4 = b + b2 := ⟨_, rfl⟩
              have z4 : (b : Int) + (b2 : Int) = (b4 : Int) := by omega
              have bb4 : b4 ≤ 3000 := by omega
              have E4 := Lib.hid hb4
              clear VK p1 p2 p3 hb4
              go_wp2_with fail
              refine CM.out.mono ?_
              rintro _ w4 ⟨rfl, hb4, k4, r4, re4, s4⟩
              have B4 : Hid (Blks (mlt M) f k4 n (cB bs b)) := Lib.hid (by
                have e2 := EB.out
                have := mrg_next EB4.out EA.out B3.out (by omega) (by rw [← e2]; exact re4) (by rw [← e2]; exact s4)
                rw [← e2] at this; exact this)
              have HB4 := Lib.hid (HB3.out.trans hb4); have R4 := Lib.hid r4
              clear hb4 r4 re4 s4
              go_wp2
              go_roundw
              case rel => exact ⟨t + 1, b, b4, k4, rfl, rfl, Lib.hid (by have e1 := EA.out; have e2 := EB.out; rw [e2, e1, Nat.mul_add, Nat.mul_one]), Lib.hid (by rw [E4.out, EB2.out]), hbn, HB4, R4, B4⟩
              case measure => have := E4.out; have := EB2.out; have := EB4.out; simp [intOf]; omega
            · by_cases hmn : m < n
              · have VK := HV.out.blk B3.out
                obtain ⟨p1, p2, p3⟩ := mrg_pre (e := n) EB4.out EA.out B3.out H0.out (by have := HM.out; omega) (by have := EB.out; omega) (Nat.le_refl _)
                rw [← HM.out] at p1 p2 p3
                have CM := Lib.hid (cSymMerge (c := c) HC.out (n - a) _ a m n k3 (Nat.le_refl _) (HW.out.trans HB3.out) R3.out (by have := HM.out; have := EB4.out; omega) hmn (Nat.le_refl _) bn VK p1 p2 p3)
                clear VK p1 p2 p3
                go_wp2_with fail
                refine CM.out.mono ?_
                rintro _ w4 ⟨rfl, hb4, k4, r4, re4, s4⟩
                have B4 : Hid (Blks (mlt M) f k4 n (cB b2 0)) := Lib.hid (by
                  have e2 := EB.out
                  rw [EB2.out]
                  exact mrg_last EB4.out EA.out B3.out han (by omega) re4 s4)
                have HB4 := Lib.hid (HB3.out.trans hb4); have R4 := Lib.hid r4
                clear hb4 r4 re4 s4
                go_wp2
                go_roundw
                case rel => exact ⟨b2, k4, rfl, Lib.hid (by have := EB4.out; have := EB2.out; omega), HB4, R4, B4⟩
                case measure => have := EB4.out; have := EB2.out; simp [intOf]; omega
              · have B4 : Hid (Blks (mlt M) f k3 n (cB b2 0)) := Lib.hid (by
                  rw [EB2.out]
                  exact mrg_none EB4.out EA.out B3.out (by have := HM.out; omega))
                go_wp2
                go_roundw
                case rel => exact ⟨b2, k3, rfl, Lib.hid (by have := EB4.out; have := EB2.out; omega), HB3, R3, B4⟩
                case measure => have := EB4.out; have := EB2.out; simp [intOf]; omega
        · have FIN : Hid (RowI wr g n k2 ∧ (∀ x, In k2 0 n x ↔ In f 0 n x) ∧ Srt (mlt M) k2 0 n) := Lib.hid ⟨R2.out, B2.out.same, mrg_done B2.out (by omega)⟩
          go_wp2
          refine bodyPost_ret (v := .tuple #[]) (by simp [results, Tryz.results25, go_sem]) rfl ?_
          exact ⟨rfl, HB2.out, k2, FIN.out⟩
theorem cSortStable {M : Int → Int} {N : Nat} {φ : FuncId} {q : Value} {w0 w : World} {g n c : Nat} {f : Nat → Int} (hc : CmpOK M N φ q g w0) (hw : Below g w0 w) (h : RowI w g n f) (hn : n ≤ 60) (hv : Oks N n f) (h0 : Srt (· < ·) f 0 n) :
    Calls Tryz.prog 18 #[.slice (some ⟨g, 0, none⟩) n c, .func (.func φ) #[] #[q]] w (RetB g w (fun w' => ∃ k, RowI w' g n k ∧ (∀ x, In k 0 n x ↔ In f 0 n x) ∧ Srt (mlt M) k 0 n)) := by
  have I := Lib.hid (cStable (c := c) hc hw h hn hv h0)
  have hb : n ≤ 1000 := by omega
  clear hc hw h hn hv h0
  go_enter Tryz.func18, Tryz.ntmps18
  go_wp2_with fail
  refine I.out.mono ?_
  rintro _ w1 ⟨rfl, hb1, hF⟩
  have HB1 := Lib.hid hb1; have HF := Lib.hid hF
  clear hb1 hF
  go_wp2
  refine bodyPost_ret (v := .tuple #[]) (by simp [results, Tryz.results18, go_sem]) rfl ?_
  exact ⟨rfl, HB1.out, HF.out⟩
end Go.Proofs.YtjddelmhbafelaaGreatDoor

/-
  A fresh model, its copies, and a call of OpGet; reckoned.
-/
namespace Go.Proofs.YtjddelmhbafelaaGreatDoor
open Go.RowKit
abbrev SatG (w : World) : Prop := V.Sat 400 V.still (V.lk G0) w ∧ V.WF 400 (V.lk G0) 400
theorem sat_keep {w w' : World} (hs : SatG w) (hb : Below w.heap.size w w') : SatG w' := ⟨V.sat_below hs.1 hb, hs.2⟩
namespace V
section
variable {P : Program} {B : Nat} [Low B]
theorem blkH2 {call : CallE} (hc : CallOK P B call) (hok : P.funcs.toList.all okFn = true) {f : FuncId} {args : List Value} {H : AH} {n : Nat} {r : Res} (h : call f args H n = .ok r) (hargs : args.all (below n deep) = true)
    (hbody : ((P.funcs[f]?).bind Func.body).isSome = true) (hwr : r.wr = []) {j : Nat} (hv : r.v = .tuple ⟨[.pointer (some ⟨j, 0, none⟩), .int .i64 (.ofNat 0)]⟩) {cs : List Value} {e : TypeId} {es : Nat} {x : Bool} (hj : get r.H j = .ok (.cells cs e es x)) (hcs : cs.all (below B deep) = true)
    {ρ : Lies} {w : World} (hs : Sat B ρ (lk H) w ∧ WF B (lk H) n) : Calls P f (args.map (ren ρ)).toArray w (Ret w (fun w' v => ∃ K o, v = .tuple #[.pointer (some ⟨K, o, none⟩), .int .i64 0] ∧ BlkAt w' K o cs e)) := by
  rcases hc f args H n r h ρ w hs.1 hs.2 (List.all_eq_true.1 hargs) with ⟨_, h2⟩ | ⟨v, w', h1, _⟩
  · refine Calls.mono h2 fun e w' he => ?_
    obtain ⟨v, rfl, ρ', rfl, k1, k2, k3⟩ := he
    rw [hwr] at k2
    refine ⟨_, rfl, ⟨k2.os, k2.tape, k2.output, k2.size, fun b hb => k2.frame b hb (fun i hi => by cases hi)⟩, ?_⟩
    obtain ⟨c, fr, g1, g2, g3, g4, g5⟩ := k1.at_ j _ (lk_ok.2 hj)
    refine ⟨(ρ' j).blk, (ρ' j).sh, by rw [hv]; simp [ren, ra], c, fr, g1, fun k v hk => ?_, by omega, g5⟩
    have := g2 k v hk
    rwa [ren_closed k1.fix (List.all_eq_true.1 hcs v (List.mem_of_getElem? hk))] at this
  · rw [enter_of hok hbody] at h1; cases h1
noncomputable def isBlk2 (x : R Res) (cs : List Value) (e : TypeId) : Bool := match x with
  | .ok r => r.wr.isEmpty && (match r.v with | .tuple ⟨[.pointer (some ⟨j, 0, none⟩), .int .i64 (.ofNat 0)]⟩ => (match get r.H j with | .ok (.cells cs' e' _ _) => sameL (sameV 6) cs' cs && Nat.beq e' e | _ => false) | _ => false)
  | .no _ => false
theorem isBlk2_ok {x : R Res} {cs : List Value} {e : TypeId} (h : isBlk2 x cs e = true) : ∃ r j es b, x = .ok r ∧ r.wr = [] ∧ r.v = .tuple ⟨[.pointer (some ⟨j, 0, none⟩), .int .i64 (.ofNat 0)]⟩ ∧ get r.H j = .ok (.cells cs e es b) := by
  unfold isBlk2 at h
  cases x with
  | no s => cases h
  | ok r =>
    simp only [Bool.and_eq_true, List.isEmpty_iff] at h
    obtain ⟨h1, h2⟩ := h
    split at h2
    · rename_i j hj
      split at h2
      · rename_i cs' e' es b hg
        rw [Bool.and_eq_true] at h2
        have e1 := sameL_ok _ _ (fun a _ b => sameV_ok _ a b) h2.1
        have e2 := Nat.eq_of_beq_eq_true h2.2
        subst e1
        subst e2
        exact ⟨r, j, es, b, rfl, h1, hj, hg⟩
      · cases h2
    · cases h2
end
end V
def modG : List Value := [.int .i64 (.ofNat 1), .int .i64 (.ofNat 1), .int .i64 (.ofNat 3), .int .i64 (.ofNat 2), .slice none 0 0, .int .i64 (.ofNat 1024), .int .i64 (.ofNat 0), .slice none 0 0, .slice none 0 0, .slice none 0 0, .bool false]
def confL : Value := .agg ⟨[.int .i64 (.ofNat 1), .int .i64 (.ofNat 1), .int .i64 (.ofNat 3), .int .i64 (.ofNat 2)]⟩
def getL : Value := .agg ⟨[.int .i64 (.ofNat 4), .string ⟨⟨[97]⟩⟩, .string ⟨⟨[]⟩⟩, .string ⟨⟨[]⟩⟩, .int .i64 (.ofNat 0), .slice none 0 0]⟩
def ansL : Value := .agg ⟨[.int .i64 (.ofNat 4), .int .i64 (.ofNat 0), .int .i64 (.ofNat 0), .slice none 0 0, .slice none 0 0]⟩
theorem newg_run : V.isBlk2 (V.callT Tryz.prog 400 MM V.noTab 2000 100 21 [confL] G0 400) modG 76 = true := by kernel_rfl
theorem newg_body : ((Tryz.prog.funcs[21]?).bind Func.body).isSome = true := by kernel_rfl
theorem copy_run : V.isBlk (V.callT Tryz.prog 400 MM V.noTab 2000 100 33 [.pointer (some ⟨400, 0, none⟩)] ((400, .cells modG 76 1 false) :: G0) 401) modG 76 = true := by kernel_rfl
theorem copy_body : ((Tryz.prog.funcs[33]?).bind Func.body).isSome = true := by kernel_rfl
theorem doget_run : V.isVal (V.callT Tryz.prog 400 MM V.noTab 2000 100 29 [.pointer (some ⟨400, 0, none⟩), getL] ((400, .cells modG 76 1 false) :: G0) 401) (.tuple ⟨[ansL, .int .i64 (.ofNat 0)]⟩) = true := by kernel_rfl
theorem doget_body : ((Tryz.prog.funcs[29]?).bind Func.body).isSome = true := by kernel_rfl
theorem csame_run : V.isTrue (V.callT Tryz.prog 400 MM V.noTab 2000 100 30 [ansL, ansL] G0 400) = true := by kernel_rfl
theorem csame_body : ((Tryz.prog.funcs[30]?).bind Func.body).isSome = true := by kernel_rfl
/-- A fresh model lies at K, o. -/
abbrev FreshG (w : World) (K o : Nat) : Prop := BlkAt w K o modG 76
theorem fresh_off {w : World} {K o : Nat} (hs : SatG w) (hK : FreshG w K o) : ∀ i p, V.lk G0 i = some p → i ≠ K := fun i p ho e => by
  have ha := hs.1.at_ i p ho
  subst e
  have hg := V.lk_ok.1 ho
  obtain ⟨c0, fr0, hK0, _⟩ := hK
  unfold G0 V.get at hg
  split at hg
  · cases hg
    obtain ⟨c, fr, g1, _⟩ := ha
    have g2 : w.heap[i]? = some (.cells c 167 fr) := g1
    rw [hK0] at g2
    cases g2
  · cases hg
theorem cNewG {w : World} (hs : SatG w) : Calls Tryz.prog 21 #[.agg #[.int .i64 1, .int .i64 1, .int .i64 3, .int .i64 2]] w (Ret w (fun w' v => ∃ K o, v = .tuple #[.pointer (some ⟨K, o, none⟩), .int .i64 0] ∧ FreshG w' K o)) := by
  obtain ⟨r, j, es, b, hr, hwr, hv, hj⟩ := V.isBlk2_ok newg_run
  have := V.blkH2 (V.callT_ok mixed_ok funcs_ok MMok V.noTab_ok 2000 100) funcs_ok hr (by kernel_rfl) newg_body hwr hv hj (by kernel_rfl) hs
  have e2 : V.ren V.still confL = confL := V.ren_closed (B := 400) (fun _ _ => rfl) (by kernel_rfl : V.below 400 V.deep confL = true)
  simp only [List.map_cons, List.map_nil, e2] at this
  exact this
theorem ptr_at {K o : Nat} : V.ren (V.at2 400 K o) (.pointer (some ⟨400, 0, none⟩)) = .pointer (some ⟨K, o, none⟩) := by simp [V.ren, V.ra, V.at2]
theorem cCopy {w : World} {K o : Nat} (hs : SatG w) (hK : FreshG w K o) : Calls Tryz.prog 33 #[.pointer (some ⟨K, o, none⟩)] w (Ret w (fun w' v => ∃ K o, v = .pointer (some ⟨K, o, none⟩) ∧ FreshG w' K o)) := by
  obtain ⟨r, j, es, b, hr, hwr, hv, hj⟩ := V.isBlk_ok copy_run
  have := V.blkH (V.callT_ok mixed_ok funcs_ok MMok V.noTab_ok 2000 100) funcs_ok hr (by kernel_rfl) copy_body hwr hv hj (by kernel_rfl) (V.sat_blk (es := 1) hs (by kernel_rfl) hK (fresh_off hs hK))
  simp only [List.map_cons, List.map_nil, ptr_at] at this
  exact this
theorem cDoG {w : World} {K o : Nat} (hs : SatG w) (hK : FreshG w K o) : Calls Tryz.prog 29 #[.pointer (some ⟨K, o, none⟩), .agg #[.int .i64 4, .string ⟨⟨[97]⟩⟩, .string ⟨#[]⟩, .string ⟨#[]⟩, .int .i64 0, .slice none 0 0]] w
    (Ret w (Is (.tuple #[.agg #[.int .i64 4, .int .i64 0, .int .i64 0, .slice none 0 0, .slice none 0 0], .int .i64 0]))) := by
  obtain ⟨r, hr, hwr, hv⟩ := V.isVal_ok doget_run
  have := V.valH (V.callT_ok mixed_ok funcs_ok MMok V.noTab_ok 2000 100) funcs_ok hr (by kernel_rfl) doget_body hwr (by rw [hv]; kernel_rfl) (V.sat_blk (es := 1) hs (by kernel_rfl) hK (fresh_off hs hK))
  rw [hv] at this
  have e2 : V.ren (V.at2 400 K o) getL = getL := V.ren_closed (B := 400) (fun _ h => V.at2_low h) (by kernel_rfl : V.below 400 V.deep getL = true)
  simp only [List.map_cons, List.map_nil, ptr_at, e2] at this
  exact this
theorem cSameG {w : World} (hs : SatG w) : Calls Tryz.prog 30 #[.agg #[.int .i64 4, .int .i64 0, .int .i64 0, .slice none 0 0, .slice none 0 0], .agg #[.int .i64 4, .int .i64 0, .int .i64 0, .slice none 0 0, .slice none 0 0]] w (Ret w (IsB true)) :=
  V.trueH (V.callT_ok mixed_ok funcs_ok MMok V.noTab_ok 2000 100) funcs_ok csame_run rfl csame_body hs
end Go.Proofs.YtjddelmhbafelaaGreatDoor

/-
  Does an event fit, and may it be the next one; where one event was made.
-/
namespace Go.Proofs.YtjddelmhbafelaaGreatDoor
open Go.RowKit
set_option maxRecDepth 100000 in
set_option maxHeartbeats 4000000 in
theorem cFits {w : World} {K o : Nat} (hs : SatG w) (hK : FreshG w K o) (i m a : Int) : Calls Tryz.prog 22 #[.pointer (some ⟨K, o, none⟩), .agg (evA i m a)] w (Ret w (IsB true)) := by
  have HS := Lib.hid hs; have HK := Lib.hid hK
  clear hs hK
  unfold evA
  go_enter Tryz.func22, Tryz.ntmps22
  go_wp2_with fail
  have hx : Below w.heap.size w (w.alloc (.cells (evA i m a) 40)) := (Below.refl _ _).alloc (Nat.le_refl _) _
  refine (cDoG (sat_keep HS.out hx) (HK.out.mono hx)).mono ?_
  rintro _ w3 ⟨_, rfl, hb3, rfl⟩
  have hw : Below w3.heap.size w3 (w3.alloc (.cells #[.int .i64 4, .int .i64 0, .int .i64 0, .slice none 0 0, .slice none 0 0] 38)) := by go_grown
  have ra := rangeKeep (rangeKeep (box_range w (evA i m a) 40) hb3) hw
  have c7 : (w3.alloc (.cells #[.int .i64 4, .int .i64 0, .int .i64 0, .slice none 0 0, .slice none 0 0] 38)).cell? ⟨w.heap.size, 7, none⟩ = some (.int .i64 4) := ra 7 _ rfl
  have c8 : (w3.alloc (.cells #[.int .i64 4, .int .i64 0, .int .i64 0, .slice none 0 0, .slice none 0 0] 38)).cell? ⟨w.heap.size, 8, none⟩ = some (.int .i64 0) := ra 8 _ rfl
  have c9 : (w3.alloc (.cells #[.int .i64 4, .int .i64 0, .int .i64 0, .slice none 0 0, .slice none 0 0] 38)).cell? ⟨w.heap.size, 9, none⟩ = some (.int .i64 0) := ra 9 _ rfl
  have c10 : (w3.alloc (.cells #[.int .i64 4, .int .i64 0, .int .i64 0, .slice none 0 0, .slice none 0 0] 38)).cell? ⟨w.heap.size, 10, none⟩ = some (.slice none 0 0) := ra 10 _ rfl
  have c11 : (w3.alloc (.cells #[.int .i64 4, .int .i64 0, .int .i64 0, .slice none 0 0, .slice none 0 0] 38)).cell? ⟨w.heap.size, 11, none⟩ = some (.slice none 0 0) := ra 11 _ rfl
  have HX := Lib.hid ((hx.le hb3).le hw)
  clear hb3 hx ra hw
  go_wp2_with fail
  refine (cSameG (sat_keep HS.out HX.out)).mono ?_
  rintro _ w4 ⟨_, rfl, hb4, rfl⟩
  have HY := Lib.hid hb4
  clear hb4
  go_wp2
  refine bodyPost_ret (v := .bool true) (by simp [results, Tryz.results22, go_sem]) rfl ?_
  exact ⟨_, rfl, HX.out.le HY.out, rfl⟩
theorem cBefore (i m j n b : Int) (h : j ≤ 9001) (w : World) : Calls Tryz.prog 67 #[.agg (evA i m 9001), .agg (evA j n b)] w (Ret w (IsB false)) := by
  have d1 : decide ((9001 : Int) < j) = false := decide_eq_false (by omega)
  clear h
  unfold evA
  go_enter Tryz.func67, Tryz.ntmps67
  go_wp2
  refine bodyPost_ret (v := .bool false) (by simp [results, Tryz.results67, go_sem]) rfl ?_
  exact ⟨_, rfl, by go_grown, rfl⟩
end Go.Proofs.YtjddelmhbafelaaGreatDoor

/-
  Go's library over a list of one number: Sort, Clone, Delete; and what search.first asks.
-/
namespace Go.Proofs.YtjddelmhbafelaaGreatDoor
open Go.RowKit
theorem len_run : V.isVal (V.callT Tryz.prog 400 MM V.noTab 2000 100 32 [.int .u64 (.ofNat 1)] G0 400) (.int .i64 (.ofNat 1)) = true := by kernel_rfl
theorem len_body : ((Tryz.prog.funcs[32]?).bind Func.body).isSome = true := by kernel_rfl
theorem cLen {w : World} (hs : SatG w) : Calls Tryz.prog 32 #[.int .u64 1] w (Ret w (Is (.int .i64 1))) := by
  obtain ⟨r, hr, hwr, hv⟩ := V.isVal_ok len_run
  have := V.valH (V.callT_ok mixed_ok funcs_ok MMok V.noTab_ok 2000 100) funcs_ok hr (by kernel_rfl) len_body hwr (by rw [hv]; kernel_rfl) hs
  rw [hv] at this
  simp only [List.map_cons, List.map_nil, V.ren] at this
  exact this
theorem insO_one (A : Option Addr) (c : Nat) (w : World) : Calls Tryz.prog 53 #[.slice A 1 c, .int .i64 0, .int .i64 1] w (Ret w Void) := by
  go_enter Tryz.func53, Tryz.ntmps53
  go_wp2
  refine wp_loop_rounds 1 ?_
  rw [rounds_succ]
  go_wp2
  refine bodyPost_ret (v := .tuple #[]) (by simp [results, Tryz.results53, go_sem]) rfl ?_
  exact ⟨_, rfl, Below.refl _ _, rfl⟩
theorem pdq_one (A : Option Addr) (c : Nat) (w : World) : Calls Tryz.prog 31 #[.slice A 1 c, .int .i64 0, .int .i64 1, .int .i64 1] w (Ret w Void) := by
  have I := Lib.hid (insO_one A c)
  go_enter Tryz.func31, Tryz.ntmps31
  go_wp2
  refine wp_loop_rounds 1 ?_
  rw [rounds_succ]
  go_wp2_with fail
  refine (I.out w).mono ?_
  rintro _ w1 ⟨_, rfl, hb1, rfl⟩
  go_wp2
  refine bodyPost_ret (v := .tuple #[]) (by simp [results, Tryz.results31, go_sem]) rfl ?_
  exact ⟨_, rfl, hb1, rfl⟩
theorem cSort {w : World} (hs : SatG w) (A : Option Addr) (c : Nat) : Calls Tryz.prog 23 #[.slice A 1 c] w (Ret w Void) := by
  have I := Lib.hid (pdq_one A c); have HS := Lib.hid hs
  clear hs
  go_enter Tryz.func23, Tryz.ntmps23
  go_wp2_with fail
  refine (cLen HS.out).mono ?_
  rintro _ w1 ⟨_, rfl, hb1, rfl⟩
  have HB1 := Lib.hid hb1
  clear hb1
  go_wp2_with fail
  refine (I.out w1).mono ?_
  rintro _ w2 ⟨_, rfl, hb2, rfl⟩
  have HB2 := Lib.hid (HB1.out.le hb2)
  clear hb2
  go_wp2
  refine bodyPost_ret (v := .tuple #[]) (by simp [results, Tryz.results23, go_sem]) rfl ?_
  exact ⟨_, rfl, HB2.out, rfl⟩
end Go.Proofs.YtjddelmhbafelaaGreatDoor

/-
  May the one event that was made be the next one: search.first.
-/
namespace Go.Proofs.YtjddelmhbafelaaGreatDoor
open Go.RowKit
section
variable {P : Program} {ops : List Oper} {Fs : List VT} {w0 : World} {a0 : Act} {i : Nat} {d : Option Tmp} {ty : TypeId} {pos : String} {after : Array Edge} {g : Option (Nat × Bool)}
theorem Ob.nilV {x : Operand} {p : Addr} (hw : Wanted ops Fs w0 a0 i ⟨d, .nilCheck x, ty, pos, after, g⟩) (hx : Has ops Fs w0 a0 i ⟨d, .nilCheck x, ty, pos, after, g⟩ x (Is (.pointer (some p)))) : Ob P ops Fs w0 a0 i ⟨d, .nilCheck x, ty, pos, after, g⟩ (Is (.pointer (some p))) :=
  Ob.stay hw fun a w cx => ⟨.pointer (some p), by
    have h1 : a.eval x = .pointer (some p) := hx a w cx
    generalize a.eval = ρ at h1
    simp [execOp, h1], rfl⟩
end
theorem entersBefore : Enters Tryz.prog 67 := enters_of Tryz.func67 (by kernel_rfl) rfl
section
variable {w0 w : World} {b o : Nat}
theorem load_pS {S : Nat} (hb : Below w0.heap.size w0 w) (h1 : w0.cell? ⟨b, o, none⟩ = some (.pointer (some ⟨S, 0, none⟩))) : (Instr.loadAt 63 (.pointer (some ⟨b, o, none⟩))).run Tryz.prog w = .ok (.pointer (some ⟨S, 0, none⟩)) w := by
  have c1 := cellKeep hb h1
  simp [go_sem, c1]
theorem load_evs {A : Option Addr} {n c : Nat} (hb : Below w0.heap.size w0 w) (h1 : w0.cell? ⟨b, o, none⟩ = some (.slice A n c)) : (Instr.loadAt 22 (.pointer (some ⟨b, o, none⟩))).run Tryz.prog w = .ok (.slice A n c) w := by
  have c1 := cellKeep hb h1
  simp [go_sem, c1]
theorem index_ev {n c k : Nat} (hk : k < n) : (Instr.indexAt 22 (.slice (some ⟨b, 0, none⟩) n c) (.int .i64 (k : Int))).run Tryz.prog w = .ok (.pointer (some ⟨b, k * 15, none⟩)) w := by
  have h1 : (0 : Int) ≤ (k : Int) := by omega
  have h2 : (k : Int) < (n : Int) := by omega
  simp [go_sem, h1, h2]
theorem load_ev {i m a : Int} (hb : Below w0.heap.size w0 w) (h1 : w0.rangeAt b o (evC i m a)) : (Instr.loadAt 40 (.pointer (some ⟨b, o, none⟩))).run Tryz.prog w = .ok (.agg (evA i m a)) w :=
  run_loadAt_mid w b o 40 (evC i m a) _ (rangeKeep h1 hb) Tryz.underlying40 rfl (show (Tryz.prog.info? 40).map (·.size) = some 15 by kernel_rfl)
theorem field_s0 : (Instr.fieldAt 65 (.pointer (some ⟨b, o, none⟩)) 0).run Tryz.prog w = .ok (.pointer (some ⟨b, o, none⟩)) w := by simp [go_sem]
end
theorem Evs.here {w : World} {g n k : Nat} (h : Evs w g n k) (hk : k < n) : w.rangeAt g (k * 15) (evC k 9000 9001) := by
  have := h.at_ k hk
  simpa [mOf, aOf] using this
set_option maxRecDepth 100000 in
set_option maxHeartbeats 4000000 in
theorem cFirst1 {w : World} {g n c k S X Y : Nat} (h : Evs w g n k) (hk : k < n) (hn : n ≤ 4096) (hx : w.cell? ⟨X, 0, none⟩ = some (.pointer (some ⟨S, 0, none⟩))) (hy : w.cell? ⟨Y, 0, none⟩ = some (.int .i64 k)) (hs : w.cell? ⟨S, 0, none⟩ = some (.slice (some ⟨g, 0, none⟩) n c)) :
    Calls Tryz.prog 66 #[.int .i64 k, .pointer (some ⟨X, 0, none⟩), .pointer (some ⟨Y, 0, none⟩)] w (Ret w (IsB false)) := by
  have R := Lib.hid (h.here hk); have HK := Lib.hid hk; have HX := Lib.hid hx; have HY := Lib.hid hy; have HS := Lib.hid hs
  have BF := Lib.hid (fun w1 => cBefore k 9000 k 9000 9001 (by omega) w1)
  clear h hk hn hx hy hs
  go_enter Tryz.func66, Tryz.ntmps66
  go_wp2_with fail
  refine wp_region_M mixed (by kernel_rfl) ?_
  refine MDerR.step (Ob.loadV Wanted.free Has.oldIs (fun w1 hb1 => load_pS hb1 HX.out)) ?_
  refine MDerR.step (Ob.nilV Wanted.free (Has.new 0 0)) ?_
  refine MDerR.step (Ob.fieldV Wanted.free (Has.new 1 0) (fun w1 => field_s0)) ?_
  refine MDerR.step (Ob.loadV Wanted.free (Has.new 2 0) (fun w1 hb1 => load_evs hb1 HS.out)) ?_
  refine MDerR.step (Ob.move Wanted.free Has.oldIs) ?_
  refine MDerR.step (Ob.indexV Wanted.free (Has.new 3 1) (Has.new 4 0) (fun w1 => index_ev HK.out)) ?_
  refine MDerR.step (Ob.loadV Wanted.free (Has.new 5 0) (fun w1 hb1 => load_ev hb1 R.out)) ?_
  refine MDerR.step (Ob.loadV Wanted.free Has.oldIs (fun w1 hb1 => load_pS hb1 HX.out)) ?_
  refine MDerR.step (Ob.nilV Wanted.free (Has.new 7 0)) ?_
  refine MDerR.step (Ob.fieldV Wanted.free (Has.new 8 0) (fun w1 => field_s0)) ?_
  refine MDerR.step (Ob.loadV Wanted.free (Has.new 9 0) (fun w1 hb1 => load_evs hb1 HS.out)) ?_
  refine MDerR.step (Ob.loadV Wanted.free Has.oldIs (fun w1 hb1 => load_int hb1 HY.out)) ?_
  refine MDerR.step (Ob.indexV Wanted.free (Has.new 10 1) (Has.new 11 0) (fun w1 => index_ev HK.out)) ?_
  refine MDerR.step (Ob.loadV Wanted.free (Has.new 12 0) (fun w1 hb1 => load_ev hb1 R.out)) ?_
  refine MDerR.step (Ob.call2V Wanted.free entersBefore (Has.new 6 7) (Has.new 13 0) (fun w1 hb1 => BF.out w1)) ?_
  refine MDerR.step (Ob.assign Wanted.free (Has.new 14 0)) ?_
  simp only [MDerR, dstsOf, List.map, EndM, List.reverse_cons, List.reverse_nil, List.nil_append, List.cons_append]
  intro wE hE
  iterate 16 (rintro _ rfl)
  simp only [Act.put, List.setIfInBounds_toArray, List.set_cons_zero, List.set_cons_succ]
  go_wp2
  go_ret
  exact retB rfl hE
end Go.Proofs.YtjddelmhbafelaaGreatDoor

/-
  search.first of the one event that was made: true.
-/
namespace Go.Proofs.YtjddelmhbafelaaGreatDoor
open Go.RowKit
/-- What the closure of first reads. -/
structure FirstAt (w : World) (g n c k S X Y : Nat) : Prop where
  evs : Evs w g n k
  lt : k < n
  le : n ≤ 4096
  x : w.cell? ⟨X, 0, none⟩ = some (.pointer (some ⟨S, 0, none⟩))
  y : w.cell? ⟨Y, 0, none⟩ = some (.int .i64 k)
  s : w.cell? ⟨S, 0, none⟩ = some (.slice (some ⟨g, 0, none⟩) n c)
theorem FirstAt.mono {w w' : World} {g n c k S X Y : Nat} (h : FirstAt w g n c k S X Y) (hb : Below w.heap.size w w') : FirstAt w' g n c k S X Y :=
  ⟨h.evs.mono hb, h.lt, h.le, cellKeep hb h.x, cellKeep hb h.y, cellKeep hb h.s⟩
set_option maxRecDepth 100000 in
theorem cIdx1 {w : World} {g n c k S X Y : Nat} (h : FirstAt w g n c k S X Y) {A : Option Addr} {ca : Nat} (hl : Sl encI w A 1 ca [(k : Int)]) :
    Calls Tryz.prog 101 #[.slice A 1 ca, .func (.func 66) #[] #[.pointer (some ⟨X, 0, none⟩), .pointer (some ⟨Y, 0, none⟩)]] w (Ret w (IsI (-1))) := by
  obtain ⟨b, o, x, rfl, -, h1, -, c1⟩ := hl.int (i := 0) (by decide)
  cases h1
  simp only [Nat.add_zero] at c1
  have H := Lib.hid h
  clear h hl
  go_enter Tryz.func101, Tryz.ntmps101
  go_wp2
  refine wp_loop_rounds 2 ?_
  rw [rounds_succ]
  go_wp2_with fail
  refine (cFirst1 H.out.evs H.out.lt H.out.le H.out.x H.out.y H.out.s).mono ?_
  rintro _ w1 ⟨_, rfl, hb1, rfl⟩
  have HB := Lib.hid hb1
  clear hb1
  go_wp2
  rw [rounds_succ]
  go_wp2
  go_ret
  exact ⟨_, rfl, HB.out, rfl⟩
theorem cHas1 {w : World} {g n c k S X Y : Nat} (h : FirstAt w g n c k S X Y) {A : Option Addr} {ca : Nat} (hl : Sl encI w A 1 ca [(k : Int)]) :
    Calls Tryz.prog 65 #[.slice A 1 ca, .func (.func 66) #[] #[.pointer (some ⟨X, 0, none⟩), .pointer (some ⟨Y, 0, none⟩)]] w (Ret w (IsB false)) := by
  have C := Lib.hid (cIdx1 h hl)
  clear h hl
  go_enter Tryz.func65, Tryz.ntmps65
  go_wp2_with fail
  refine C.out.mono ?_
  rintro _ w1 ⟨_, rfl, hb1, rfl⟩
  have HB := Lib.hid hb1
  clear hb1
  go_wp2
  go_ret
  exact retB rfl HB.out
theorem cFirst {w : World} {g n c k S ca : Nat} {A : Option Addr} (he : Evs w g n k) (hk : k < n) (hn : n ≤ 4096) (h0 : w.cell? ⟨S, 0, none⟩ = some (.slice (some ⟨g, 0, none⟩) n c)) (h1 : w.cell? ⟨S, 1, none⟩ = some (.slice A 1 ca)) (hl : Sl encI w A 1 ca [(k : Int)]) :
    Calls Tryz.prog 34 #[.pointer (some ⟨S, 0, none⟩), .int .i64 k] w (Ret w (IsB true)) := by
  have hb1 : Below w.heap.size w (w.alloc (.cells #[.pointer (some ⟨S, 0, none⟩)] 63)) := (Below.refl _ _).alloc (Nat.le_refl _) _
  have hb2 : Below w.heap.size w ((w.alloc (.cells #[.pointer (some ⟨S, 0, none⟩)] 63)).alloc (.cells #[.int .i64 k] 3)) := hb1.alloc (by simp) _
  have hb3 : Below (w.alloc (.cells #[.pointer (some ⟨S, 0, none⟩)] 63)).heap.size (w.alloc (.cells #[.pointer (some ⟨S, 0, none⟩)] 63)) ((w.alloc (.cells #[.pointer (some ⟨S, 0, none⟩)] 63)).alloc (.cells #[.int .i64 k] 3)) := (Below.refl _ _).alloc (Nat.le_refl _) _
  have hx := cellKeep hb3 (box_range w #[.pointer (some ⟨S, 0, none⟩)] 63 0 _ rfl)
  have hy := box_range (w.alloc (.cells #[.pointer (some ⟨S, 0, none⟩)] 63)) #[.int .i64 k] 3 0 _ rfl
  have hz : (w.alloc (.cells #[.pointer (some ⟨S, 0, none⟩)] 63)).heap.size = w.heap.size + 1 := by simp
  rw [hz] at hy
  have F := Lib.hid (show FirstAt _ g n c k S w.heap.size (w.heap.size + 1) from ⟨he.mono hb2, hk, hn, hx, hy, cellKeep hb2 h0⟩)
  have SL := Lib.hid (hl.mono hb2)
  have c1 := cellKeep hb2 h1
  have HB := Lib.hid hb2
  clear h1
  clear hx hy hz hb1 hb2 hb3 he h0 hl hn hk
  go_enter Tryz.func34, Tryz.ntmps34
  go_wp2_with fail
  refine (cHas1 F.out SL.out).mono ?_
  rintro _ w1 ⟨_, rfl, hb1, rfl⟩
  replace HB := Lib.hid (HB.out.le hb1)
  clear hb1
  go_wp2
  go_ret
  exact retB rfl HB.out
end Go.Proofs.YtjddelmhbafelaaGreatDoor

/-
  slices.Clone of a list of one number, and slices.Delete of its element.
-/
namespace Go.Proofs.YtjddelmhbafelaaGreatDoor
open Go.RowKit
theorem OwnSl.empty {α : Type} (e : Enc α) (ty : TypeId) (w : World) {B g : Nat} (hB : B ≤ g) (hh : w.heap[g]? = some (.cells #[] ty (0, 0))) : OwnSl e ty w B (.slice (some ⟨g, 0, none⟩) 0 0) [] :=
  ⟨by simp [Enc.all], .inr ⟨g, 0, #[], rfl, hB, hh, Nat.le_refl _, by unfold maxLen; omega, by simp, by simp [Enc.all]⟩⟩
/-- A row of the call's own with one number. -/
structure One (w : World) (B : Nat) (v : Value) (g c : Nat) (x : Int) : Prop where
  eq : v = .slice (some ⟨g, 0, none⟩) 1 c
  low : B ≤ g
  cap : 1 ≤ c
  max : c ≤ maxLen
  cell : w.cell? ⟨g, 0, none⟩ = some (.int .i64 x)
  open_ : w.frozen? ⟨g, 0, none⟩ = false
theorem OwnSl.one {w : World} {B : Nat} {v : Value} {x : Int} {ty : TypeId} (h : OwnSl encI ty w B v [x]) : ∃ g c, One w B v g c x := by
  obtain ⟨A, c, rfl, hs⟩ := h.sl
  obtain ⟨b, o, y, rfl, -, -, -, -⟩ := hs.int (i := 0) (by simp)
  have h2 : w.ownsRow B ty 1 (.slice (some ⟨b, o, none⟩) 1 c) 1 [.int .i64 x] := h
  rcases h2.2 with ⟨h', _⟩ | ⟨g', cap', cur, h', hb, _, hnc, hmx, _⟩
  · cases h'
  · cases h'
    exact ⟨_, _, rfl, hb, hnc, hmx, World.ownsRow.cellAt h2 0 (by decide), World.ownsRow.frozenAt h2 0⟩
set_option maxRecDepth 100000 in
theorem cClone1 {w : World} {A : Option Addr} {c : Nat} {x : Int} (hl : Sl encI w A 1 c [x]) : Calls Tryz.prog 36 #[.slice A 1 c] w (Ret w (fun w' v => OwnSl encI 3 w' w.heap.size v [x])) := by
  obtain ⟨b, o, y, rfl, -, -, -, -⟩ := hl.int (i := 0) (by decide)
  have HE := Lib.hid (OwnSl.empty encI 3 (w.alloc (.cells #[] 3)) (Nat.le_refl w.heap.size) (heap_alloc_new w _))
  have HL := Lib.hid (hl.mono ((Below.refl w.heap.size w).alloc (Nat.le_refl _) (.cells #[] 3)))
  have HB := Lib.hid ((Below.refl w.heap.size w).alloc (Nat.le_refl _) (.cells #[] 3))
  have hq := fun w a n c => Lib.run_eql_slice_nil (P := Tryz.prog) w 27 3 a n c 0 0 Tryz.underlying27
  clear hl
  go_enter Tryz.func36, Tryz.ntmps36
  go_wp2_with (first
  | (at_builtin; refine wpList_appS (B := w.heap.size) (l := ([] : List Int)) infI rfl rfl Tryz.underlying27 rfl rfl HE.out HL.out (by simp) (by simp) ?_; intro v1 w1 ho1 hg1 _; have HO1 := Lib.hid ho1; have HG1 := Lib.hid hg1; clear ho1 hg1)
  | fail)
  go_ret
  exact ⟨_, rfl, HB.out.grown HG1.out (by simp) (fun q hq => (HE.out.own q hq).1), HO1.out⟩
def cutI (A : Option Addr) (c k : Nat) : Option Addr := if c = k then A else A.map (·.add k)
theorem slice_toI {w : World} {A : Option Addr} {n c k : Nat} (h : k ≤ c) : (Instr.sliceAt 27 (.slice A n c) none (some (.int .i64 (k : Int))) none).run Tryz.prog w = .ok (.slice A k c) w := by
  have h1 : (0 : Int) ≤ (k : Int) := by omega
  have h2 : (k : Int) ≤ (c : Int) := by omega
  simp [go_sem, h1, h2]
theorem slice_fromI {w : World} {A : Option Addr} {n c k : Nat} (h : k ≤ n) (hc : n ≤ c) : (Instr.sliceAt 27 (.slice A n c) (some (.int .i64 (k : Int))) none none).run Tryz.prog w = .ok (.slice (cutI A c k) (n - k) (c - k)) w := by
  have h1 : (0 : Int) ≤ (k : Int) := by omega
  have h2 : (k : Int) ≤ (n : Int) := by omega
  have h3 : (n : Int) ≤ (c : Int) := by omega
  unfold cutI
  simp [go_sem, h1, h2]
section
variable {ops : List Oper} {Fs : List VT} {w0 : World} {a0 : Act} {i : Nat} {d : Option Tmp} {ty : TypeId} {pos : String} {after : Array Edge} {g : Option (Nat × Bool)}
theorem Ob.sliceToI {x y : Operand} {A : Option Addr} {n c k : Nat} (hw : Wanted ops Fs w0 a0 i ⟨d, .slice 27 x none (some y) none, ty, pos, after, g⟩) (hx : Has ops Fs w0 a0 i ⟨d, .slice 27 x none (some y) none, ty, pos, after, g⟩ x (Is (.slice A n c))) (hy : Has ops Fs w0 a0 i ⟨d, .slice 27 x none (some y) none, ty, pos, after, g⟩ y (IsI (k : Int))) (h : k ≤ c) :
    Ob Tryz.prog ops Fs w0 a0 i ⟨d, .slice 27 x none (some y) none, ty, pos, after, g⟩ (Is (.slice A k c)) :=
  Ob.stay hw fun a w cx => ⟨_, by
    have h1 : a.eval x = .slice A n c := hx a w cx
    have h2 : a.eval y = .int .i64 (k : Int) := hy a w cx
    have h3 := slice_toI (w := w) (A := A) (n := n) h
    generalize a.eval = ρ at h1 h2
    simp [execOp, h1, h2, h3], rfl⟩
theorem Ob.sliceFromI {x y : Operand} {A : Option Addr} {n c k : Nat} (hw : Wanted ops Fs w0 a0 i ⟨d, .slice 27 x (some y) none none, ty, pos, after, g⟩) (hx : Has ops Fs w0 a0 i ⟨d, .slice 27 x (some y) none none, ty, pos, after, g⟩ x (Is (.slice A n c))) (hy : Has ops Fs w0 a0 i ⟨d, .slice 27 x (some y) none none, ty, pos, after, g⟩ y (IsI (k : Int))) (h : k ≤ n) (hc : n ≤ c) :
    Ob Tryz.prog ops Fs w0 a0 i ⟨d, .slice 27 x (some y) none none, ty, pos, after, g⟩ (Is (.slice (cutI A c k) (n - k) (c - k))) :=
  Ob.stay hw fun a w cx => ⟨_, by
    have h1 : a.eval x = .slice A n c := hx a w cx
    have h2 : a.eval y = .int .i64 (k : Int) := hy a w cx
    have h3 := slice_fromI (w := w) (A := A) h hc
    generalize a.eval = ρ at h1 h2
    simp [execOp, h1, h2, h3], rfl⟩
theorem srcNone (w : World) (A : Option Addr) (c : Nat) : Src Tryz.prog 1 27 (.slice A 0 c) 0 [] w :=
  ⟨.inl ⟨_, Tryz.underlying27⟩, fun w' => by simp [Builtin.lenOf], by cases A <;> simp [Builtin.firstCells, loadCells, loadCellsFrom], by cases A <;> simp [Builtin.firstCells, loadCells, loadCellsFrom], rfl, fun u hu => by cases hu⟩
theorem Ob.appNone {x y : Operand} {A C : Option Addr} {n c m : Nat} (hw : Wanted ops Fs w0 a0 i ⟨d, .call ⟨.builtin .append, #[x, y], #[27, 27]⟩, ty, pos, after, g⟩)
    (hx : Has ops Fs w0 a0 i ⟨d, .call ⟨.builtin .append, #[x, y], #[27, 27]⟩, ty, pos, after, g⟩ x (Is (.slice A n c))) (hy : Has ops Fs w0 a0 i ⟨d, .call ⟨.builtin .append, #[x, y], #[27, 27]⟩, ty, pos, after, g⟩ y (Is (.slice C 0 m))) (h : n ≤ c) :
    Ob Tryz.prog ops Fs w0 a0 i ⟨d, .call ⟨.builtin .append, #[x, y], #[27, 27]⟩, ty, pos, after, g⟩ (Is (.slice A n c)) :=
  Ob.stay hw fun a w cx => ⟨_, by
    have h1 : a.eval x = .slice A n c := hx a w cx
    have h2 : a.eval y = .slice C 0 m := hy a w cx
    obtain ⟨inf, hi, _, hs, _⟩ := info_parts (P := Tryz.prog) (show (Tryz.prog.info? 3).map (fun i => (i.zero, i.size, i.bytes)) = some (some (.int .i64 0), 1, 8) by kernel_rfl)
    have h3 := run_append_nothing w 27 27 ty 3 inf Tryz.underlying27 hi A n c h (.slice C 0 m) (by rw [hs]; exact srcNone w C m)
    generalize a.eval = ρ at h1 h2
    simp [execOp, resolve, invoke, builtin, h1, h2, h3], rfl⟩
end
end Go.Proofs.YtjddelmhbafelaaGreatDoor

/-
  Events that came in; the comparison of linear.Order; the reference's Order.
-/
namespace Go.Proofs.YtjddelmhbafelaaGreatDoor
open Go.RowKit Ls
/-- When event number i was made. -/
structure MadeAt (w : World) (A : Option Addr) (n : Nat) (mf : Nat → Int) : Prop where
  cell : ∀ i, i < n → ∃ b o, A = some ⟨b, o, none⟩ ∧ b < w.heap.size ∧ w.cell? ⟨b, o + i * 15 + 13, none⟩ = some (.int .i64 (mf i))
theorem MadeAt.mono {w w' : World} {A : Option Addr} {n : Nat} {mf : Nat → Int} (h : MadeAt w A n mf) (hb : Below w.heap.size w w') : MadeAt w' A n mf := ⟨fun i hi => by
  obtain ⟨b, o, e, hl, hc⟩ := h.cell i hi
  exact ⟨b, o, e, Nat.lt_of_lt_of_le hl hb.size, cellKeep hb hc⟩⟩
/-- The order of the history. -/
def Mz (mf : Nat → Int) (x : Int) : Int := mf x.toNat
theorem Mz_nat (mf : Nat → Int) (i : Nat) : Mz mf (i : Int) = mf i := by unfold Mz; simp
theorem index_evs {w : World} {b o n c k : Nat} (hk : k < n) : (Instr.indexAt 22 (.slice (some ⟨b, o, none⟩) n c) (.int .i64 (k : Int))).run Tryz.prog w = .ok (.pointer (some ⟨b, o + k * 15, none⟩)) w := by
  have h1 : (0 : Int) ≤ (k : Int) := by omega
  have h2 : (k : Int) < (n : Int) := by omega
  simp [go_sem, h1, h2]
theorem field_made {w : World} {b o : Nat} : (Instr.fieldAt 40 (.pointer (some ⟨b, o, none⟩)) 4).run Tryz.prog w = .ok (.pointer (some ⟨b, o + 13, none⟩)) w := by simp [go_sem]
theorem retIj {b c : Int} {w w' : World} (h : b = c) (hb : Below w.heap.size w w') : Ret w (IsI c) (.returned (.int .i64 b)) w' := ⟨_, rfl, hb, by rw [h]; rfl⟩
theorem jcompare (a b : Int) (w : World) : Calls Tryz.prog 20 #[.int .i64 a, .int .i64 b] w (Ret w (IsI (cmpJ a b))) := by
  go_enter Tryz.func20, Tryz.ntmps20
  go_wp2
  all_goals
    go_ret
    exact retIj (by unfold cmpJ; (repeat split) <;> first | rfl | omega) (Below.refl _ _)
theorem entersCmp : Enters Tryz.prog 20 := enters_of Tryz.func20 (by kernel_rfl) rfl
theorem entersOrd : Enters Tryz.prog 19 := enters_of Tryz.func19 (by kernel_rfl) rfl
set_option maxRecDepth 100000 in
set_option maxHeartbeats 4000000 in
theorem cLess {w : World} {X b o n c i j : Nat} {u v : Int} (hx : w.cell? ⟨X, 0, none⟩ = some (.slice (some ⟨b, o, none⟩) n c)) (hi : i < n) (hj : j < n) (hu : w.cell? ⟨b, o + i * 15 + 13, none⟩ = some (.int .i64 u)) (hv : w.cell? ⟨b, o + j * 15 + 13, none⟩ = some (.int .i64 v)) :
    Calls Tryz.prog 19 #[.int .i64 (i : Int), .int .i64 (j : Int), .pointer (some ⟨X, 0, none⟩)] w (Ret w (IsI (cmpJ u v))) := by
  have HX := Lib.hid hx; have HU := Lib.hid hu; have HV := Lib.hid hv; have HI := Lib.hid hi; have HJ := Lib.hid hj
  clear hx hu hv hi hj
  go_enter Tryz.func19, Tryz.ntmps19
  go_wp2_with fail
  refine wp_region_M mixed (by kernel_rfl) ?_
  refine MDerR.step (Ob.loadV Wanted.free Has.oldIs (fun w1 hb1 => load_evs hb1 HX.out)) ?_
  refine MDerR.step (Ob.move Wanted.free Has.oldIs) ?_
  refine MDerR.step (Ob.indexV Wanted.free (Has.new 0 1) (Has.new 1 0) (fun w1 => index_evs HI.out)) ?_
  refine MDerR.step (Ob.fieldV Wanted.free (Has.new 2 0) (fun w1 => field_made)) ?_
  refine MDerR.step (Ob.loadV Wanted.free (Has.new 3 0) (fun w1 hb1 => load_int hb1 HU.out)) ?_
  refine MDerR.step (Ob.loadV Wanted.free Has.oldIs (fun w1 hb1 => load_evs hb1 HX.out)) ?_
  refine MDerR.step (Ob.move Wanted.free Has.oldIs) ?_
  refine MDerR.step (Ob.indexV Wanted.free (Has.new 5 1) (Has.new 6 0) (fun w1 => index_evs HJ.out)) ?_
  refine MDerR.step (Ob.fieldV Wanted.free (Has.new 7 0) (fun w1 => field_made)) ?_
  refine MDerR.step (Ob.loadV Wanted.free (Has.new 8 0) (fun w1 hb1 => load_int hb1 HV.out)) ?_
  refine MDerR.step (Ob.call2V Wanted.free entersCmp (Has.new 4 5) (Has.new 9 0) (fun w1 hb1 => jcompare u v w1)) ?_
  refine MDerR.step (Ob.assign Wanted.free (Has.new 10 0)) ?_
  simp only [MDerR, dstsOf, List.map, EndM, List.reverse_cons, List.reverse_nil, List.nil_append, List.cons_append]
  intro wE hE
  iterate 12 (rintro _ rfl)
  simp only [Act.put, List.setIfInBounds_toArray, List.set_cons_zero, List.set_cons_succ]
  go_wp2
  go_ret
  exact ⟨_, rfl, hE, rfl⟩
theorem Below.cellB {g : Nat} {w w' : World} {b o : Nat} {v : Value} (h : Below g w w') (hb : b < g) (hc : w.cell? ⟨b, o, none⟩ = some v) : w'.cell? ⟨b, o, none⟩ = some v := (h.cell (p := ⟨b, o, none⟩) hb).trans hc
theorem cmpOK {w0 : World} {X g n c : Nat} {A : Option Addr} {mf : Nat → Int} (hX : X < g) (hx : w0.cell? ⟨X, 0, none⟩ = some (.slice A n c)) (hA : ∀ b o, A = some ⟨b, o, none⟩ → b < g) (hm : MadeAt w0 A n mf) : CmpOK (Mz mf) n 19 (.pointer (some ⟨X, 0, none⟩)) g w0 :=
  ⟨entersOrd, fun w hb x y hx0 hxn hy0 hyn => by
    obtain ⟨i, rfl⟩ : ∃ i : Nat, x = (i : Int) := ⟨x.toNat, by omega⟩
    obtain ⟨j, rfl⟩ : ∃ j : Nat, y = (j : Int) := ⟨y.toNat, by omega⟩
    have hi : i < n := by omega
    have hj : j < n := by omega
    obtain ⟨b, o, rfl, _, hu⟩ := hm.cell i hi
    obtain ⟨b', o', e', _, hv⟩ := hm.cell j hj
    cases e'
    have hbg := hA b o rfl
    rw [Mz_nat, Mz_nat]
    exact cLess (Below.cellB hb hX hx) hi hj (Below.cellB hb hbg hu) (Below.cellB hb hbg hv)⟩
section
variable {ops : List Oper} {Fs : List VT} {w0 : World} {a0 : Act} {i : Nat} {d : Option Tmp} {ty : TypeId} {pos : String} {after : Array Edge} {g : Option (Nat × Bool)}
theorem Ob.appNilI {x : Operand} {l : List Int} {A : Option Addr} {n c : Nat} (hw : Wanted ops Fs w0 a0 i ⟨d, .call ⟨.builtin .append, #[.const (.slice none 0 0), x], #[27, 27]⟩, ty, pos, after, g⟩)
    (hx : Has ops Fs w0 a0 i ⟨d, .call ⟨.builtin .append, #[.const (.slice none 0 0), x], #[27, 27]⟩, ty, pos, after, g⟩ x (Is (.slice A n c))) (hd : ∀ w, Below w0.heap.size w0 w → Sl encI w A n c l) (hs : l.length ≤ 1000000000) :
    Ob Tryz.prog ops Fs w0 a0 i ⟨d, .call ⟨.builtin .append, #[.const (.slice none 0 0), x], #[27, 27]⟩, ty, pos, after, g⟩ (IsOwn encI 3 w0.heap.size l) :=
  Ob.any hw fun a w cx => by
    have e : a.eval x = .slice A n c := hx a w cx
    have hd := hd w cx.le
    obtain ⟨v', w', hr, h2, h3, _⟩ := run_appS (P := Tryz.prog) (rt := ty) infI Tryz.underlying27 (OwnSl.nil_ encI 3 w w.heap.size) hd (by simpa using hs) (Nat.le_refl _)
    refine ⟨v', w', ?_, (Below.refl _ w).grown h3 (Nat.le_refl _) (fun k hk => by simp [Value.ownBlock] at hk), OwnSl.low (by simpa using h2) cx.le.size⟩
    have hc : a.eval (.const (.slice none 0 0)) = .slice none 0 0 := rfl
    generalize a.eval = ρ at e hc
    simp [execOp, resolve, invoke, builtin, e, hc, hr]
theorem Ob.mkI1 {x : Operand} {v : Int} (hw : Wanted ops Fs w0 a0 i ⟨d, .buildSlice 27 1 #[(0, x)], ty, pos, after, g⟩) (hx : Has ops Fs w0 a0 i ⟨d, .buildSlice 27 1 #[(0, x)], ty, pos, after, g⟩ x (Is (.int .i64 v))) :
    Ob Tryz.prog ops Fs w0 a0 i ⟨d, .buildSlice 27 1 #[(0, x)], ty, pos, after, g⟩ (fun w u => ∃ A, u = .slice A 1 1 ∧ Sl encI w A 1 1 [v]) :=
  Ob.buildSlice hw fun a w cx => by
    have e : a.eval x = .int .i64 v := hx a w cx
    generalize a.eval = ρ at e
    refine ⟨.slice (some ⟨w.heap.size, 0, none⟩) 1 1, w.alloc (.cells #[.int .i64 v] 3), ?_, (Below.refl _ _).alloc (Nat.le_refl _) _, _, rfl, Sl.oneI w v _⟩
    simp [e, go_sem]
end
instance (v : Int) : Grows (fun (w : World) (u : Value) => ∃ A, u = .slice A 1 1 ∧ Sl encI w A 1 1 [v]) := ⟨fun hb ⟨A, e, h⟩ => ⟨A, e, h.mono hb⟩⟩
theorem Sl.takeI {w : World} {A : Option Addr} {n c k : Nat} {l : List Int} (h : Sl encI w A n c l) (hk : k ≤ n) : Sl encI w A k c (l.take k) :=
  ⟨by have := h.len; simp; omega, Nat.le_trans hk h.cap, h.max, h.nil, fun i x hi => by
    rw [List.getElem?_take] at hi
    split at hi
    · exact h.cell i x hi
    · simp at hi⟩
theorem Sl.dropI {w : World} {A : Option Addr} {n c k : Nat} {l : List Int} (h : Sl encI w A n c l) (hk : k ≤ n) : Sl encI w (cutI A c k) (n - k) (c - k) (l.drop k) := by
  refine ⟨by have := h.len; simp; omega, by have := h.cap; omega, by have := h.max; omega, fun e => ?_, fun i x hi => ?_⟩
  · unfold cutI at e
    split at e
    · omega
    · cases hA : A with
      | none => have := h.nil hA; omega
      | some a => rw [hA] at e; simp at e
  · rw [List.getElem?_drop] at hi
    obtain ⟨b, o, rfl, hlt, hc⟩ := h.cell (k + i) x hi
    have hil := (List.getElem?_eq_some_iff.1 hi).1
    have hcap := h.cap; have hlen := h.len
    refine ⟨b, o + k, ?_, hlt, fun j u hj => ?_⟩
    · unfold cutI
      rw [if_neg (by omega)]
      simp [add_lit]
    · have := hc j u hj
      have e1 : encI.z = 1 := rfl
      rw [e1] at this ⊢
      have e2 : o + k + i * 1 + j = o + (k + i) * 1 + j := by omega
      rw [e2]; exact this
end Go.Proofs.YtjddelmhbafelaaGreatDoor

/-
  The reference's Order of at most sixty events.
-/
namespace Go.Proofs.YtjddelmhbafelaaGreatDoor
open Go.RowKit Ls
def IsSlI (l : List Int) (w : World) (v : Value) : Prop := ∃ A m c, v = .slice A m c ∧ Sl encI w A m c l
theorem index_sl {w : World} {b o n c k : Nat} (hk : k < n) : (Instr.indexAt 27 (.slice (some ⟨b, o, none⟩) n c) (.int .i64 (k : Int))).run Tryz.prog w = .ok (.pointer (some ⟨b, o + k, none⟩)) w := by
  have h1 : (0 : Int) ≤ (k : Int) := by omega
  have h2 : (k : Int) < (n : Int) := by omega
  simp [go_sem, h1, h2]
theorem take_get {l : List Int} {k : Nat} {x : Int} (h : l[k]? = some x) : k < l.length := (List.getElem?_eq_some_iff.1 h).1
set_option maxRecDepth 100000 in
set_option maxHeartbeats 8000000 in
theorem rOrder {w : World} {A0 : Option Addr} {n c : Nat} {mf : Nat → Int} (h : MadeAt w A0 n mf) (hn : n ≤ 60) :
    Calls Tryz.prog 8 #[.slice A0 n c] w (Ret w (fun w' v => ∃ l, RefL (Mz mf) n l ∧ IsSlI l w' v)) := by
  have H := Lib.hid h; have HN := Lib.hid hn
  have bn : n ≤ 1000 := by omega
  clear h hn
  go_enter Tryz.func8, Tryz.ntmps8
  go_wp2
  go_loopw [3, 4] (fun u v wr => ∃ (i : Nat) (out : List Int) (A : Option Addr) (m c2 : Nat), u = .slice A m c2 ∧ v = .int .i64 i ∧ i ≤ n ∧ Below w.heap.size w wr ∧ Hid (Sl encI wr A m c2 out) ∧ Hid (RefL (Mz mf) i out)) (fun _ v _ => n - (intOf v).toNat)
  case atStart => exact ⟨0, [], none, 0, 0, rfl, rfl, Nat.zero_le _, Below.refl _ _, Lib.hid (Sl.nil_ encI w), Lib.hid (RefL.nil_ _)⟩
  case round =>
    obtain ⟨i, out, A, m, c2, rfl, rfl, hin, hbw, SL, RL⟩ := hrel
    have HBW := Lib.hid hbw
    clear hbw
    by_cases hlt : i < n
    · obtain ⟨b, o, rfl, hbl, hc⟩ := (H.out.mono HBW.out).cell i hlt
      have LEN : Hid (out.length ≤ 60) := Lib.hid (by have := RL.out.len; have := idx_len (Mz mf) i; have := HN.out; omega)
      have HIN : Hid (i + 1 ≤ n) := Lib.hid hlt
      by_cases hm : mf i = -1
      · rw [hm] at hc
        have NEXT : Hid (RefL (Mz mf) (i + 1) out) := Lib.hid (RL.out.skip (by rw [Mz_nat]; exact hm))
        clear hm
        go_wp2
        go_roundw
        case rel => exact ⟨i + 1, out, A, m, c2, rfl, by simp, HIN.out, HBW.out, SL, NEXT⟩
        case measure => have := HIN.out; simp [intOf]; omega
      · have hne : (mf i == -1) = false := by simpa using hm
        have HM := Lib.hid hm; have HC := Lib.hid hc
        clear hm
        go_wp2
        clear hc hne
        go_loopw [5] (fun u wr2 => ∃ k : Nat, u = .int .i64 k ∧ k ≤ m ∧ Hid (Below wr.heap.size wr wr2) ∧ Hid (∀ j x, j < k → out[j]? = some x → Mz mf x ≤ mf i)) (fun u _ => m - (intOf u).toNat)
        case atStart => exact ⟨0, rfl, Nat.zero_le _, Lib.hid (Below.refl _ _), Lib.hid (fun j x h => absurd h (Nat.not_lt_zero _))⟩
        case round =>
          obtain ⟨k, rfl, hkm, HB2, LO⟩ := hrel
          have bm : m ≤ 1000 := by have := LEN.out; have := SL.out.len; omega
          by_cases hk : k < m
          · obtain ⟨b2, o2, x, rfl, -, hx, -, hcx⟩ := (SL.out.mono HB2.out).int (i := k) hk
            obtain ⟨p, hp, hpm, rfl⟩ := (idx_mem (Mz mf) i x).1 ((RL.out.mem x).1 (List.mem_of_getElem? hx))
            obtain ⟨b', o', e', _, hcp⟩ := ((H.out.mono HBW.out).mono HB2.out).cell p (by omega)
            cases e'
            have DK : Hid (decide ((k : Int) < (m : Int)) = true) := Lib.hid (decide_eq_true (by omega))
            have HCX := Lib.hid hcx; have HCP := Lib.hid hcp; have HC2 := Lib.hid (cellKeep HB2.out HC.out)
            have HPN : Hid (p < n) := Lib.hid (by omega)
            have HX := Lib.hid hx; have HK := Lib.hid hk
            clear hcx hcp hp hpm hx
            have hlen : ∀ w1, (Builtin.len_ #[27] 3 #[.slice (some ⟨b2, o2, none⟩) m c2]).run Tryz.prog w1 = .ok (.int .i64 (m : Int)) w1 := fun w1 => by simp [go_sem]
            have HL := Lib.hid hlen
            clear hlen
            by_cases hle : mf p ≤ mf i
            · have DL : Hid (decide (mf p ≤ mf i) = true) := Lib.hid (decide_eq_true hle)
              have LO2 : Hid (∀ j x, j < k + 1 → out[j]? = some x → Mz mf x ≤ mf i) := Lib.hid (fun j x h1 h2 => by
                rcases Nat.lt_or_ge j k with q | q
                · exact LO.out j x q h2
                · have : j = k := by omega
                  subst this
                  rw [HX.out] at h2; cases h2; rw [Mz_nat]; exact hle)
              clear hle
              go_wp2_with fail
              refine wp_region_M mixed (by kernel_rfl) ?_
              refine MDerR.step (Ob.move Wanted.free Has.oldIs) ?_
              refine MDerR.step (Ob.move Wanted.free Has.oldIs) ?_
              refine MDerR.step (Ob.lenV Wanted.free (Has.new 1 0) (fun w1 => HL.out w1)) ?_
              refine MDerR.step (Ob.binV Wanted.free (Has.new 0 2) (Has.new 2 0) (fun w1 => int_lss true DK.out)) ?_
              refine MDerR.step (Ob.move Wanted.free (Has.new 3 0)) ?_
              refine MDerR.step (Ob.move (Wanted.on 4 0) Has.oldIs) ?_
              refine MDerR.step (Ob.move (Wanted.on 4 1) Has.oldIs) ?_
              refine MDerR.step (Ob.move (Wanted.on 4 2) Has.oldIs) ?_
              refine MDerR.step (Ob.indexV (Wanted.on 4 3) (Has.new 6 1) (Has.new 7 0) (fun w1 => index_sl HK.out)) ?_
              refine MDerR.step (Ob.loadV (Wanted.on 4 4) (Has.new 8 0) (fun w1 hb1 => load_int hb1 HCX.out)) ?_
              refine MDerR.step (Ob.indexV (Wanted.on 4 5) (Has.new 5 4) (Has.new 9 0) (fun w1 => index_evs HPN.out)) ?_
              refine MDerR.step (Ob.fieldV (Wanted.on 4 6) (Has.new 10 0) (fun w1 => field_made)) ?_
              refine MDerR.step (Ob.loadV (Wanted.on 4 7) (Has.new 11 0) (fun w1 hb1 => load_int hb1 HCP.out)) ?_
              refine MDerR.step (Ob.move (Wanted.on 4 8) Has.oldIs) ?_
              refine MDerR.step (Ob.move (Wanted.on 4 9) Has.oldIs) ?_
              refine MDerR.step (Ob.indexV (Wanted.on 4 10) (Has.new 13 1) (Has.new 14 0) (fun w1 => index_evs HIN.out)) ?_
              refine MDerR.step (Ob.fieldV (Wanted.on 4 11) (Has.new 15 0) (fun w1 => field_made)) ?_
              refine MDerR.step (Ob.loadV (Wanted.on 4 12) (Has.new 16 0) (fun w1 hb1 => load_int hb1 HC2.out)) ?_
              refine MDerR.step (Ob.binV (Wanted.on 4 13) (Has.new 12 5) (Has.new 17 0) (fun w1 => int_leq true DL.out)) ?_
              refine MDerR.step (Ob.pickT Wanted.free (Has.new 4 14) (Has.new 18 0)) ?_
              simp only [MDerR, dstsOf, List.map, EndM, List.reverse_cons, List.reverse_nil, List.nil_append, List.cons_append]
              intro wE hE
              iterate 20 (rintro _ rfl)
              simp only [Act.put, List.setIfInBounds_toArray, List.set_cons_zero, List.set_cons_succ]
              have HB3 := Lib.hid (HB2.out.le hE)
              clear hE
              go_wp2
              go_roundw
              case rel => exact ⟨k + 1, by simp, HK.out, HB3, LO2⟩
              case measure => have := HK.out; simp [intOf]; omega
            · have DL : Hid (decide (mf p ≤ mf i) = false) := Lib.hid (decide_eq_false hle)
              have NEXT : Hid (RefL (Mz mf) (i + 1) (out.take k ++ [(i : Int)] ++ out.drop k)) := Lib.hid (RL.out.put (by rw [Mz_nat]; exact HM.out) (by have := SL.out.len; omega) (fun j x h1 h2 => by rw [Mz_nat]; exact LO.out j x h1 h2) (.inr ⟨_, HX.out, by rw [Mz_nat, Mz_nat]; exact hle⟩))
              have KM : Hid (k ≤ m) := Lib.hid hkm
              clear hle hk hkm
              go_wp2_with fail
              refine wp_region_M mixed (by kernel_rfl) ?_
              refine MDerR.step (Ob.move Wanted.free Has.oldIs) ?_
              refine MDerR.step (Ob.move Wanted.free Has.oldIs) ?_
              refine MDerR.step (Ob.lenV Wanted.free (Has.new 1 0) (fun w1 => HL.out w1)) ?_
              refine MDerR.step (Ob.binV Wanted.free (Has.new 0 2) (Has.new 2 0) (fun w1 => int_lss true DK.out)) ?_
              refine MDerR.step (Ob.move Wanted.free (Has.new 3 0)) ?_
              refine MDerR.step (Ob.move (Wanted.on 4 0) Has.oldIs) ?_
              refine MDerR.step (Ob.move (Wanted.on 4 1) Has.oldIs) ?_
              refine MDerR.step (Ob.move (Wanted.on 4 2) Has.oldIs) ?_
              refine MDerR.step (Ob.indexV (Wanted.on 4 3) (Has.new 6 1) (Has.new 7 0) (fun w1 => index_sl HK.out)) ?_
              refine MDerR.step (Ob.loadV (Wanted.on 4 4) (Has.new 8 0) (fun w1 hb1 => load_int hb1 HCX.out)) ?_
              refine MDerR.step (Ob.indexV (Wanted.on 4 5) (Has.new 5 4) (Has.new 9 0) (fun w1 => index_evs HPN.out)) ?_
              refine MDerR.step (Ob.fieldV (Wanted.on 4 6) (Has.new 10 0) (fun w1 => field_made)) ?_
              refine MDerR.step (Ob.loadV (Wanted.on 4 7) (Has.new 11 0) (fun w1 hb1 => load_int hb1 HCP.out)) ?_
              refine MDerR.step (Ob.move (Wanted.on 4 8) Has.oldIs) ?_
              refine MDerR.step (Ob.move (Wanted.on 4 9) Has.oldIs) ?_
              refine MDerR.step (Ob.indexV (Wanted.on 4 10) (Has.new 13 1) (Has.new 14 0) (fun w1 => index_evs HIN.out)) ?_
              refine MDerR.step (Ob.fieldV (Wanted.on 4 11) (Has.new 15 0) (fun w1 => field_made)) ?_
              refine MDerR.step (Ob.loadV (Wanted.on 4 12) (Has.new 16 0) (fun w1 hb1 => load_int hb1 HC2.out)) ?_
              refine MDerR.step (Ob.binV (Wanted.on 4 13) (Has.new 12 5) (Has.new 17 0) (fun w1 => int_leq false DL.out)) ?_
              refine MDerR.step (Ob.pickT Wanted.free (Has.new 4 14) (Has.new 18 0)) ?_
              simp only [MDerR, dstsOf, List.map, EndM, List.reverse_cons, List.reverse_nil, List.nil_append, List.cons_append]
              intro wE hE
              iterate 20 (rintro _ rfl)
              simp only [Act.put, List.setIfInBounds_toArray, List.set_cons_zero, List.set_cons_succ]
              clear HL
              obtain ⟨A, hA⟩ : ∃ A : Option Addr, A = some ⟨b2, o2, none⟩ := ⟨_, rfl⟩
              rw [← hA] at SL ⊢
              clear hA HCX HCP HC2
              have HE := Lib.hid ((HBW.out.le HB2.out).le hE)
              have DD := Lib.hid ((SL.out.mono HB2.out).mono hE)
              clear hE
              generalize wE = W at *
              go_wp2_with fail
              refine wp_region_any mixed ?_
              refine take_pure (i := 7) rfl rfl (by kernel_rfl) (fun _ _ _ h => h) (v := .slice A m c2) (fun w => by simp [execOp, Act.eval]) ?_
              refine take_pure (i := 8) rfl rfl (by kernel_rfl) (fun _ _ _ h => h) (v := .int .i64 (k : Int)) (fun w => by simp [execOp, Act.eval, Act.put]) ?_
              refine take_pure (i := 9) rfl rfl (by kernel_rfl) (fun _ _ _ h => h) (v := .slice (cutI A c2 k) (m - k) (c2 - k)) (fun w => by simp [execOp, Act.eval, Act.put, slice_fromI KM.out DD.out.cap]) ?_
              simp only [Act.put, List.setIfInBounds_toArray, List.set_cons_zero, List.set_cons_succ]
              refine wp_left [0, 1, 2, 3, 4, 5, 6, 10, 11] 6 (by kernel_rfl) (by kernel_rfl) (by kernel_rfl) (by kernel_rfl) ?_
              refine MDerT.step (Ob.move Wanted.free Has.oldIs) ?_
              refine MDerT.step (Ob.move Wanted.free Has.oldIs) ?_
              refine MDerT.step (Ob.sliceToI Wanted.free (Has.new 0 1) (Has.new 1 0) (Nat.le_trans KM.out DD.out.cap)) ?_
              refine MDerT.step (Ob.appNilI Wanted.free (Has.new 2 0) (fun w1 hb1 => (DD.out.takeI KM.out).mono (Below.ofDrew hb1)) (by have := LEN.out; rw [List.length_take]; omega)) ?_
              refine MDerT.step (Ob.move Wanted.free Has.oldIs) ?_
              refine MDerT.step (Ob.mkI1 Wanted.free (Has.new 4 0)) ?_
              intro wE hE
              change EndM _ [some 40, some 41, some 42, some 43, some 44, some 45] _ _ _
              simp only [EndM, List.reverse_cons, List.reverse_nil, List.nil_append, List.cons_append]
              iterate 3 (rintro _ rfl)
              rintro v3 r3
              rintro _ rfl
              rintro _ ⟨A5, rfl, d5⟩
              simp only [Act.put, List.setIfInBounds_toArray, List.set_cons_zero, List.set_cons_succ]
              replace hE := Below.ofDrew hE
              have hsz := hE.size
              refine wpList_appS (B := W.heap.size) infI rfl rfl Tryz.underlying27 rfl rfl r3 d5 (by have := LEN.out; rw [List.length_take]; simp; omega) hsz ?_
              intro v6 w6 r6 g6 _
              change wpList _ _ _ _ (Act.put _ (some 46) v6) w6
              simp only [Act.put, List.setIfInBounds_toArray, List.set_cons_zero, List.set_cons_succ]
              have b6 : Below W.heap.size W w6 := hE.grown g6 hsz (fun q hq => (OwnSl.own r3 q hq).1)
              refine wpList_appS (B := W.heap.size) infI rfl rfl Tryz.underlying27 rfl rfl r6 ((DD.out.dropI KM.out).mono b6) (by have := LEN.out; rw [List.length_append, List.length_take, List.length_drop]; simp; omega) b6.size ?_
              intro v7 w7 r7 g7 _
              change wpList _ _ _ _ (Act.put _ (some 50) v7) w7
              simp only [Act.put, List.setIfInBounds_toArray, List.set_cons_zero, List.set_cons_succ]
              have b7 : Below W.heap.size W w7 := b6.grown g7 b6.size (fun q hq => (OwnSl.own r6 q hq).1)
              refine wpList_assign (v := v7) rfl rfl rfl ?_
              change wpList _ _ _ _ (Act.put _ (some 3) v7) w7
              refine wpList_nil ?_
              simp only [Act.put, List.setIfInBounds_toArray, List.set_cons_zero, List.set_cons_succ]
              obtain ⟨A7, c7, e7, s7⟩ := OwnSl.sl r7
              have S7 := Lib.hid s7; have B7 := Lib.hid b7; have E7 := Lib.hid e7
              clear r7 b7 r6 g6 b6 g7 r3 d5 hE hsz s7 e7
              go_wp2
              go_roundw
              case rel => exact ⟨i + 1, _, A7, _, c7, E7.out, by simp, HIN.out, HE.out.le B7.out, S7, NEXT⟩
              case measure => have := HIN.out; simp [intOf]; omega
          · have hkm2 : k = m := by omega
            have DK : Hid (decide ((k : Int) < (m : Int)) = false) := Lib.hid (decide_eq_false (by omega))
            have hlen : ∀ w1, (Builtin.len_ #[27] 3 #[.slice A m c2]).run Tryz.prog w1 = .ok (.int .i64 (m : Int)) w1 := fun w1 => by simp [go_sem]
            have HL := Lib.hid hlen
            have NEXT : Hid (RefL (Mz mf) (i + 1) (out.take k ++ [(i : Int)] ++ out.drop k)) := Lib.hid (RL.out.put (by rw [Mz_nat]; exact HM.out) (by have := SL.out.len; omega) (fun j x h1 h2 => by rw [Mz_nat]; exact LO.out j x h1 h2) (.inl (by rw [hkm2]; exact SL.out.len)))
            have KM : Hid (k ≤ m) := Lib.hid hkm
            clear hlen hk hkm hkm2
            go_wp2_with fail
            refine wp_region_M mixed (by kernel_rfl) ?_
            refine MDerR.step (Ob.move Wanted.free Has.oldIs) ?_
            refine MDerR.step (Ob.move Wanted.free Has.oldIs) ?_
            refine MDerR.step (Ob.lenV Wanted.free (Has.new 1 0) (fun w1 => HL.out w1)) ?_
            refine MDerR.step (Ob.binV Wanted.free (Has.new 0 2) (Has.new 2 0) (fun w1 => int_lss false DK.out)) ?_
            refine MDerR.step (Ob.move Wanted.free (Has.new 3 0)) ?_
            refine MDerR.step (Ob.off 4 0) ?_
            refine MDerR.step (Ob.off 4 1) ?_
            refine MDerR.step (Ob.off 4 2) ?_
            refine MDerR.step (Ob.off 4 3) ?_
            refine MDerR.step (Ob.off 4 4) ?_
            refine MDerR.step (Ob.off 4 5) ?_
            refine MDerR.step (Ob.off 4 6) ?_
            refine MDerR.step (Ob.off 4 7) ?_
            refine MDerR.step (Ob.off 4 8) ?_
            refine MDerR.step (Ob.off 4 9) ?_
            refine MDerR.step (Ob.off 4 10) ?_
            refine MDerR.step (Ob.off 4 11) ?_
            refine MDerR.step (Ob.off 4 12) ?_
            refine MDerR.step (Ob.off 4 13) ?_
            refine MDerR.step (Ob.pickF Wanted.free (Has.new 4 14) (Has.cst _)) ?_
            simp only [MDerR, dstsOf, List.map, EndM, List.reverse_cons, List.reverse_nil, List.nil_append, List.cons_append]
            intro wE hE
            iterate 20 (rintro _ rfl)
            simp only [Act.put, List.setIfInBounds_toArray, List.set_cons_zero, List.set_cons_succ]
            clear HL
            have HE := Lib.hid ((HBW.out.le HB2.out).le hE)
            have DD := Lib.hid ((SL.out.mono HB2.out).mono hE)
            clear hE
            generalize wE = W at *
            go_wp2_with fail
            refine wp_region_any mixed ?_
            refine take_pure (i := 7) rfl rfl (by kernel_rfl) (fun _ _ _ h => h) (v := .slice A m c2) (fun w => by simp [execOp, Act.eval]) ?_
            refine take_pure (i := 8) rfl rfl (by kernel_rfl) (fun _ _ _ h => h) (v := .int .i64 (k : Int)) (fun w => by simp [execOp, Act.eval, Act.put]) ?_
            refine take_pure (i := 9) rfl rfl (by kernel_rfl) (fun _ _ _ h => h) (v := .slice (cutI A c2 k) (m - k) (c2 - k)) (fun w => by simp [execOp, Act.eval, Act.put, slice_fromI KM.out DD.out.cap]) ?_
            simp only [Act.put, List.setIfInBounds_toArray, List.set_cons_zero, List.set_cons_succ]
            refine wp_left [0, 1, 2, 3, 4, 5, 6, 10, 11] 6 (by kernel_rfl) (by kernel_rfl) (by kernel_rfl) (by kernel_rfl) ?_
            refine MDerT.step (Ob.move Wanted.free Has.oldIs) ?_
            refine MDerT.step (Ob.move Wanted.free Has.oldIs) ?_
            refine MDerT.step (Ob.sliceToI Wanted.free (Has.new 0 1) (Has.new 1 0) (Nat.le_trans KM.out DD.out.cap)) ?_
            refine MDerT.step (Ob.appNilI Wanted.free (Has.new 2 0) (fun w1 hb1 => (DD.out.takeI KM.out).mono (Below.ofDrew hb1)) (by have := LEN.out; rw [List.length_take]; omega)) ?_
            refine MDerT.step (Ob.move Wanted.free Has.oldIs) ?_
            refine MDerT.step (Ob.mkI1 Wanted.free (Has.new 4 0)) ?_
            intro wE hE
            change EndM _ [some 40, some 41, some 42, some 43, some 44, some 45] _ _ _
            simp only [EndM, List.reverse_cons, List.reverse_nil, List.nil_append, List.cons_append]
            iterate 3 (rintro _ rfl)
            rintro v3 r3
            rintro _ rfl
            rintro _ ⟨A5, rfl, d5⟩
            simp only [Act.put, List.setIfInBounds_toArray, List.set_cons_zero, List.set_cons_succ]
            replace hE := Below.ofDrew hE
            have hsz := hE.size
            refine wpList_appS (B := W.heap.size) infI rfl rfl Tryz.underlying27 rfl rfl r3 d5 (by have := LEN.out; rw [List.length_take]; simp; omega) hsz ?_
            intro v6 w6 r6 g6 _
            change wpList _ _ _ _ (Act.put _ (some 46) v6) w6
            simp only [Act.put, List.setIfInBounds_toArray, List.set_cons_zero, List.set_cons_succ]
            have b6 : Below W.heap.size W w6 := hE.grown g6 hsz (fun q hq => (OwnSl.own r3 q hq).1)
            refine wpList_appS (B := W.heap.size) infI rfl rfl Tryz.underlying27 rfl rfl r6 ((DD.out.dropI KM.out).mono b6) (by have := LEN.out; rw [List.length_append, List.length_take, List.length_drop]; simp; omega) b6.size ?_
            intro v7 w7 r7 g7 _
            change wpList _ _ _ _ (Act.put _ (some 50) v7) w7
            simp only [Act.put, List.setIfInBounds_toArray, List.set_cons_zero, List.set_cons_succ]
            have b7 : Below W.heap.size W w7 := b6.grown g7 b6.size (fun q hq => (OwnSl.own r6 q hq).1)
            refine wpList_assign (v := v7) rfl rfl rfl ?_
            change wpList _ _ _ _ (Act.put _ (some 3) v7) w7
            refine wpList_nil ?_
            simp only [Act.put, List.setIfInBounds_toArray, List.set_cons_zero, List.set_cons_succ]
            obtain ⟨A7, c7, e7, s7⟩ := OwnSl.sl r7
            have S7 := Lib.hid s7; have B7 := Lib.hid b7; have E7 := Lib.hid e7
            clear r7 b7 r6 g6 b6 g7 r3 d5 hE hsz s7 e7
            go_wp2
            go_roundw
            case rel => exact ⟨i + 1, _, A7, _, c7, E7.out, by simp, HIN.out, HE.out.le B7.out, S7, NEXT⟩
            case measure => have := HIN.out; simp [intOf]; omega
    · have hin2 : i = n := by omega
      subst hin2
      go_wp2
      go_ret
      exact ⟨_, rfl, HBW.out, out, RL.out, A, m, c2, rfl, SL.out⟩
end Go.Proofs.YtjddelmhbafelaaGreatDoor

/-
  linear.Order of at most sixty events.
-/
namespace Go.Proofs.YtjddelmhbafelaaGreatDoor
open Go.RowKit Ls
abbrev SlV := Option Addr × Nat × Nat
/-- An event's parts. -/
structure Ev where
  t : Int
  o : Int
  k : ByteArray
  r : ByteArray
  i : ByteArray
  q : Int
  d : SlV
  ao : Int
  ae : Int
  ac : Int
  l : SlV
  b : SlV
  asked : Int
  made : Int
  ans : Int
def evL (e : Ev) : List Value := [.int .i64 e.t, .int .i64 e.o, .string e.k, .string e.r, .string e.i, .int .i64 e.q, .slice e.d.1 e.d.2.1 e.d.2.2, .int .i64 e.ao, .int .i64 e.ae, .int .i64 e.ac, .slice e.l.1 e.l.2.1 e.l.2.2, .slice e.b.1 e.b.2.1 e.b.2.2, .int .i64 e.asked, .int .i64 e.made, .int .i64 e.ans]
def evR (e : Ev) : Array Value := #[.int .i64 e.t, .int .i64 e.o, .string e.k, .string e.r, .string e.i, .int .i64 e.q, .slice e.d.1 e.d.2.1 e.d.2.2, .int .i64 e.ao, .int .i64 e.ae, .int .i64 e.ac, .slice e.l.1 e.l.2.1 e.l.2.2, .slice e.b.1 e.b.2.1 e.b.2.2, .int .i64 e.asked, .int .i64 e.made, .int .i64 e.ans]
theorem evR_one (e : Ev) : (evR e).all (·.oneCell') = true := by simp [evR, Value.oneCell']
/-- A list of slices of bytes. -/
def BatchAt (w : World) (s : SlV) : Prop := s.2.1 ≤ 9223372036854775807 ∧ ∀ k, k < s.2.1 → ∃ b o B m d, s.1 = some ⟨b, o, none⟩ ∧ m ≤ 9223372036854775807 ∧ w.cell? ⟨b, o + k, none⟩ = some (.slice B m d)
structure EvT (w : World) (A : Option Addr) (n c : Nat) (f : Nat → Ev) : Prop where
  cap : n ≤ c
  max : c ≤ maxLen
  nil : A = none → c = 0
  cell : ∀ i, i < n → ∃ b o, A = some ⟨b, o, none⟩ ∧ b < w.heap.size ∧ w.rangeAt b (o + i * 15) (evL (f i))
  batch : ∀ i, i < n → BatchAt w (f i).b ∧ (f i).d.2.1 ≤ 9223372036854775807 ∧ (f i).l.2.1 ≤ 9223372036854775807
section
variable {w w' : World} {A : Option Addr} {n c : Nat} {f : Nat → Ev}
theorem BatchAt.mono {s : SlV} (h : BatchAt w s) (hb : Below w.heap.size w w') : BatchAt w' s := ⟨h.1, fun k hk => by
  obtain ⟨b, o, B, m, d, e, hm, hc⟩ := h.2 k hk
  exact ⟨b, o, B, m, d, e, hm, cellKeep hb hc⟩⟩
theorem EvT.mono (h : EvT w A n c f) (hb : Below w.heap.size w w') : EvT w' A n c f := ⟨h.cap, h.max, h.nil, fun i hi => by
  obtain ⟨b, o, e, hl, hr⟩ := h.cell i hi
  exact ⟨b, o, e, Nat.lt_of_lt_of_le hl hb.size, rangeKeep hr hb⟩, fun i hi => ⟨(h.batch i hi).1.mono hb, (h.batch i hi).2⟩⟩
theorem EvT.big (h : EvT w A n c f) : n ≤ 9223372036854775807 := by have := h.cap; have := h.max; unfold maxLen at this; omega
theorem EvT.made (h : EvT w A n c f) : MadeAt w A n (fun i => (f i).made) := ⟨fun i hi => by
  obtain ⟨b, o, e, hl, hr⟩ := h.cell i hi
  exact ⟨b, o, e, hl, hr 13 _ rfl⟩⟩
end
/-- Numbers of a row that the call owns. -/
theorem row_of_own {w : World} {B g cap : Nat} {l : List Int} {ty : TypeId} (h : OwnSl encI ty w B (.slice (some ⟨g, 0, none⟩) l.length cap) l) : RowI w g l.length (fun i => l.getD i 0) := by
  have h2 : w.ownsRow B ty 1 (.slice (some ⟨g, 0, none⟩) l.length cap) l.length (encI.all l) := h
  have hlt : g < w.heap.size := by
    rcases h2.2 with ⟨h', _⟩ | ⟨g', cap', cur, h', hb, hg, _⟩
    · cases h'
    · cases h'; exact (Array.getElem?_eq_some_iff.1 hg).1
  refine ⟨fun i hi => ?_, fun i hi => World.ownsRow.frozenAt h2 i, hlt⟩
  rw [World.ownsRow.cellAt h2 i (by omega)]
  have hx : l[i]? = some (l[i]'hi) := List.getElem?_eq_getElem hi
  have := Enc.all_get (e := encI) l i _ hx 0 (.int .i64 (l[i]'hi)) rfl
  have e1 : i * encI.z + 0 = i := by show i * 1 + 0 = i; omega
  rw [e1] at this
  rw [this, List.getD_eq_getElem?_getD, hx]; rfl
theorem sl_of_row {w : World} {g n c : Nat} {k : Nat → Int} (h : RowI w g n k) (hc : n ≤ c) (hm : c ≤ maxLen) : Sl encI w (some ⟨g, 0, none⟩) n c ((List.range n).map k) :=
  ⟨by simp, hc, hm, (fun e => nomatch e), fun i x hi => by
    have hil : i < n := by have := (List.getElem?_eq_some_iff.1 hi).1; simpa using this
    rw [List.getElem?_map, List.getElem?_range hil] at hi
    simp only [Option.map_some, Option.some.injEq] at hi
    subst hi
    refine ⟨g, 0, rfl, h.lt, fun j u hj => ?_⟩
    have hj0 : j = 0 := by have := (List.getElem?_eq_some_iff.1 hj).1; simpa [encI] using this
    subst hj0
    have : u = .int .i64 (k i) := by simpa [encI] using hj.symm
    subst this
    have e1 : 0 + i * encI.z + 0 = i := by show 0 + i * 1 + 0 = i; omega
    rw [e1]; exact h.cell i hil⟩
theorem idx_oks (M : Int → Int) (n : Nat) : Oks n (idx M n).length (fun i => (idx M n).getD i 0) := fun i hi => by
  have hx : (idx M n)[i]? = some ((idx M n)[i]'hi) := List.getElem?_eq_getElem hi
  obtain ⟨p, hp, _, e⟩ := (idx_mem M n _).1 (List.mem_of_getElem? hx)
  show 0 ≤ (idx M n).getD i 0 ∧ (idx M n).getD i 0 < n
  rw [List.getD_eq_getElem?_getD, hx]
  simp only [Option.getD_some]
  omega
theorem idx_srt (M : Int → Int) (n : Nat) : Srt (· < ·) (fun i => (idx M n).getD i 0) 0 (idx M n).length := fun i j _ hij hj => by
  have hp := idx_pair M n
  rw [List.pairwise_iff_getElem] at hp
  have := hp i j (by omega) hj hij
  show (idx M n).getD i 0 < (idx M n).getD j 0
  rw [List.getD_eq_getElem?_getD, List.getD_eq_getElem?_getD, List.getElem?_eq_getElem (by omega), List.getElem?_eq_getElem hj]
  exact this
theorem idx_in (M : Int → Int) (n : Nat) (x : Int) : In (fun i => (idx M n).getD i 0) 0 (idx M n).length x ↔ x ∈ idx M n := by
  constructor
  · rintro ⟨i, _, hi, rfl⟩
    show (idx M n).getD i 0 ∈ _
    rw [List.getD_eq_getElem?_getD, List.getElem?_eq_getElem hi]
    exact List.getElem_mem hi
  · intro hx
    obtain ⟨i, hi⟩ := List.getElem?_of_mem hx
    refine ⟨i, Nat.zero_le _, (List.getElem?_eq_some_iff.1 hi).1, ?_⟩
    show (idx M n).getD i 0 = x
    rw [List.getD_eq_getElem?_getD, hi]; rfl
structure Ordered (M : Int → Int) (n : Nat) (l : List Int) : Prop where
  srt : l.Pairwise (mlt M)
  mem : ∀ x, x ∈ l ↔ x ∈ idx M n
def OGRel (M : Int → Int) (w : World) (n : Nat) (u i : Value) (wr : World) : Prop := ∃ j : Nat, i = .int .i64 j ∧ j ≤ n ∧ Hid (Below w.heap.size w wr) ∧ Hid (OwnSl encI 3 wr (w.heap.size + 1) u (idx M j))
set_option maxRecDepth 100000 in
set_option maxHeartbeats 8000000 in
theorem cOrderG {w : World} {A : Option Addr} {n c : Nat} {f : Nat → Ev} (h : EvT w A n c f) (hn : n ≤ 60) :
    Calls Tryz.prog 14 #[.slice A n c] w (Ret w (fun w' v => ∃ B m d l, v = .tuple #[.slice B m d, .int .i64 0] ∧ Sl encI w' B m d l ∧ Ordered (Mz (fun i => (f i).made)) n l)) := by
  obtain ⟨M, hM⟩ : ∃ M, M = Mz (fun i => (f i).made) := ⟨_, rfl⟩
  rw [← hM]
  have EM := Lib.hid hM
  have H := Lib.hid h; have HN := Lib.hid hn
  have d0 : decide ((4096 : Int) < (n : Int)) = false := decide_eq_false (by omega)
  have HBG : n ≤ 9223372036854775807 := by omega
  clear h hn hM
  go_enter Tryz.func14, Tryz.ntmps14
  go_wp2
  clear d0
  go_loopw [4, 12] (fun u i wr => OGRel M w n u i wr ∧ wr.cell? ⟨w.heap.size, 0, none⟩ = some (.slice A n c)) (fun _ i _ => n - (intOf i).toNat)
  case atStart => exact ⟨⟨0, rfl, Nat.zero_le _, Lib.hid (by go_grown), Lib.hid (OwnSl.nil_ _ _ _ _)⟩, by simp⟩
  case round =>
    obtain ⟨⟨j, rfl, hj, HB, OWN⟩, hx0⟩ := hrel
    have X0 := Lib.hid hx0
    clear hx0
    by_cases hlt : j < n
    · obtain ⟨b, o, rfl, _, hr⟩ := (H.out.mono HB.out).cell j hlt
      have R := Lib.hid hr
      have HLT := Lib.hid hlt
      have hbox := box_new wr evZ 40 (evL (f j)) rfl
      obtain ⟨W2, hW2⟩ : ∃ W2, W2 = (wr.alloc (.cells evZ 40)).setCells wr.heap.size 0 (evL (f j)) := ⟨_, rfl⟩
      rw [← hW2] at hbox
      have HW2 := Lib.hid hW2
      have HB2 := Lib.hid (HB.out.le hbox.1)
      have X2 := Lib.hid (cellKeep hbox.1 X0.out)
      have OW2 := Lib.hid (OWN.out.mono hbox.1)
      have hc4 : W2.cell? ⟨wr.heap.size, 13, none⟩ = some (.int .i64 (f j).made) := hbox.2 13 _ rfl
      clear hbox hW2 hr
      by_cases hjk : (f j).made = -1
      · rw [hjk] at hc4
        have C4 := Lib.hid hc4
        have EI : Hid (idx M (j + 1) = idx M j) := Lib.hid (by rw [idx_succ, if_neg]; rw [EM.out, Mz_nat]; simp [hjk])
        clear hc4 hjk
        go_wp2_with (first
          | (refine wpList_load_mid rfl 40 _ rfl _ _ rfl _ _ R.out Tryz.underlying40 rfl (show (Tryz.prog.info? 40).map (·.size) = some 15 by kernel_rfl) ?_; simp only [evL, Act.put, List.setIfInBounds_toArray, List.set_cons_zero, List.set_cons_succ])
          | (refine wpList_store_mid rfl 40 _ _ rfl wr.heap.size 0 (evR (f j)) rfl rfl (there_new wr _ _) (show (Tryz.prog.info? 40).map (·.size) = some 15 by kernel_rfl) (evR_one _) ?_;
             simp only [Act.put, List.setIfInBounds_toArray, List.set_cons_zero, List.set_cons_succ];
             refine cast_world HW2.out ?_; have x4 := C4.out)
          | (at_builtin; refine wpList_appS (B := w.heap.size + 1) (l := idx M j) infI rfl rfl Tryz.underlying27 rfl rfl OWA.out (Sl.oneI _ _ _) (by have := idx_len M j; have := HLT.out; have := HN.out; simp; omega) HSA.out ?_; intro v1 w1 ho1 hg1 _; have HO1 := Lib.hid ho1; have HG1 := Lib.hid hg1; clear ho1 hg1)
          | fail)
        go_roundw
        case rel => exact ⟨⟨j + 1, by simp, HLT.out, HB2, Lib.hid (by rw [EI.out]; exact OW2.out)⟩, X2.out⟩
        case measure => simp [intOf]; omega
      · have hne : ((f j).made != -1) = true := by simpa using hjk
        have C4 := Lib.hid hc4
        have EI : Hid (idx M (j + 1) = idx M j ++ [(j : Int)]) := Lib.hid (by rw [idx_succ, if_pos]; rw [EM.out, Mz_nat]; exact hjk)
        clear hc4 hjk
        have OWA := Lib.hid (OW2.out.mono ((Below.refl _ _).alloc (Nat.le_refl _) (.cells #[.int .i64 (j : Int)] 3)))
        have HSA := Lib.hid (show w.heap.size + 1 ≤ (W2.alloc (.cells #[.int .i64 (j : Int)] 3)).heap.size by have := World.block_lt_of_cell? _ _ X2.out; simp at this ⊢; omega)
        have XA := Lib.hid (cellKeep ((Below.refl _ _).alloc (Nat.le_refl _) (.cells #[.int .i64 (j : Int)] 3)) X2.out)
        go_wp2_with (first
          | (refine wpList_load_mid rfl 40 _ rfl _ _ rfl _ _ R.out Tryz.underlying40 rfl (show (Tryz.prog.info? 40).map (·.size) = some 15 by kernel_rfl) ?_; simp only [evL, Act.put, List.setIfInBounds_toArray, List.set_cons_zero, List.set_cons_succ])
          | (refine wpList_store_mid rfl 40 _ _ rfl wr.heap.size 0 (evR (f j)) rfl rfl (there_new wr _ _) (show (Tryz.prog.info? 40).map (·.size) = some 15 by kernel_rfl) (evR_one _) ?_;
             simp only [Act.put, List.setIfInBounds_toArray, List.set_cons_zero, List.set_cons_succ];
             refine cast_world HW2.out ?_; have x4 := C4.out)
          | (at_builtin; refine wpList_appS (B := w.heap.size + 1) (l := idx M j) infI rfl rfl Tryz.underlying27 rfl rfl OWA.out (Sl.oneI _ _ _) (by have := idx_len M j; have := HLT.out; have := HN.out; simp; omega) HSA.out ?_; intro v1 w1 ho1 hg1 _; have HO1 := Lib.hid ho1; have HG1 := Lib.hid hg1; clear ho1 hg1)
          | fail)
        go_roundw
        case rel => exact ⟨⟨j + 1, by simp, HLT.out, Lib.hid ((HB2.out.alloc HB2.out.size _).grown HG1.out (by have := HSA.out; omega) (fun q hq => by have := (OWA.out.own q hq).1; omega)), Lib.hid (by have e := HO1.out; rw [EI.out]; exact e)⟩, HG1.out.cell XA.out (fun e => absurd (OWA.out.own w.heap.size e.symm).1 (Nat.not_succ_le_self _))⟩
        case measure => simp [intOf]; omega
    · have hjn : j = n := by omega
      subst hjn
      have LE : Hid ((idx M j).length ≤ 60) := Lib.hid (by have := idx_len M j; have := HN.out; omega)
      by_cases hz : (idx M j).length = 0
      · obtain ⟨A9, c9, rfl, hsl⟩ := OWN.out.sl
        have SL := Lib.hid hsl
        have hl0 : (idx M j).length ≤ 1 := by omega
        have FIN : Hid (Ordered M j (idx M j)) := Lib.hid (by
          have e := List.eq_nil_of_length_eq_zero hz
          exact ⟨by rw [e]; exact List.Pairwise.nil, fun x => Iff.rfl⟩)
        clear hsl hlt hz
        generalize hm : (idx M j).length = m at *
        go_wp2_with fail
        refine (sort_one A9 m c9 _ hl0 _).mono ?_
        rintro _ w5 ⟨_, rfl, hb5, rfl⟩
        have HB5 := Lib.hid (HB.out.le hb5); have SL5 := Lib.hid (SL.out.mono hb5)
        clear hb5
        go_wp2
        refine bodyPost_ret (v := .tuple #[.slice A9 m c9, .int .i64 0]) (by simp [results, Tryz.results14, go_sem]) rfl ?_
        exact ⟨_, rfl, HB5.out, _, _, _, _, rfl, SL5.out, FIN.out⟩
      · have hown := OWN.out
        rcases hown.2 with ⟨h1, h2⟩ | ⟨g, cap, cur, hv, hg, hh, hn2, hmx, _⟩
        · exact absurd h2 hz
        · subst hv
          have ROW := Lib.hid (row_of_own hown)
          have HG := Lib.hid hg; have HCAP := Lib.hid hn2; have HMX := Lib.hid hmx
          have CM : Hid (CmpOK M j 19 (.pointer (some ⟨w.heap.size, 0, none⟩)) g wr) := Lib.hid (by
            rw [EM.out]
            refine cmpOK (by have := HG.out; omega) X0.out (fun b o e => ?_) ((H.out.mono HB.out).made)
            by_cases hj0 : j = 0
            · exact absurd (by rw [hj0]; rfl) hz
            · obtain ⟨b', o', e', hl, _⟩ := H.out.cell 0 (by omega)
              rw [e] at e'; cases e'
              have := HG.out; omega)
          have CS := Lib.hid (cSortStable (c := cap) CM.out (Below.refl _ _) ROW.out LE.out (idx_oks M j) (idx_srt M j))
          clear hown hg hh hn2 hmx hz hlt
          generalize hm : (idx M j).length = m at *
          go_wp2_with fail
          refine CS.out.mono ?_
          rintro _ w5 ⟨rfl, hb5, k, r5, hin, hs⟩
          have FIN : Hid (Sl encI w5 (some ⟨g, 0, none⟩) m cap ((List.range m).map k) ∧ Ordered M j ((List.range m).map k)) := Lib.hid ⟨sl_of_row r5 HCAP.out HMX.out, pair_of_srt hs, fun x => by rw [mem_of_in, hin, ← hm, idx_in]⟩
          have HB5 := Lib.hid (HB.out.trans (hb5.mono (by have := HG.out; omega)))
          clear hb5 r5 hin hs
          go_wp2
          refine bodyPost_ret (v := .tuple #[.slice (some ⟨g, 0, none⟩) m cap, .int .i64 0]) (by simp [results, Tryz.results14, go_sem]) rfl ?_
          exact ⟨_, rfl, HB5.out, _, _, _, _, rfl, FIN.out⟩
end Go.Proofs.YtjddelmhbafelaaGreatDoor

/-
  small: of any events.
-/
namespace Go.Proofs.YtjddelmhbafelaaGreatDoor
open Go.RowKit Ls
theorem index_evn {w : World} {b o n c k : Nat} (hk : k < n) : (Instr.indexAt 22 (.slice (some ⟨b, o, none⟩) n c) (.int .i64 (k : Int))).run Tryz.prog w = .ok (.pointer (some ⟨b, o + k * 15, none⟩)) w := index_evs hk
/-- What small answers: true only of few events. -/
def SmallV (n most : Nat) (_ : World) (v : Value) : Prop := ∃ b, v = .bool b ∧ (b = true → n ≤ most)
set_option maxRecDepth 100000 in
set_option maxHeartbeats 8000000 in
theorem lSmall {w : World} {A : Option Addr} {n c : Nat} {f : Nat → Ev} (h : EvT w A n c f) :
    Calls Tryz.prog 5 #[.slice A n c, .int .i64 60] w (Ret w (SmallV n 60)) := by
  have H := Lib.hid h
  have HBG := h.big
  clear h
  go_enter Tryz.func5, Tryz.ntmps5
  go_wp2
  go_loopw [5] (fun u wr => ∃ i : Nat, u = .int .i64 i ∧ i ≤ n ∧ Hid (Below w.heap.size w wr)) (fun u _ => n - (intOf u).toNat)
  case atStart => exact ⟨0, rfl, Nat.zero_le _, Lib.hid (Below.refl _ _)⟩
  case round =>
    obtain ⟨i, rfl, hin, HB⟩ := hrel
    by_cases hlt : i < n
    · by_cases h60 : i ≤ 60
      · obtain ⟨b, o, rfl, hbl, hr⟩ := (H.out.mono HB.out).cell i hlt
        have c1 := hr 1 _ rfl
        have c2 := hr 2 _ rfl
        have c3 := hr 3 _ rfl
        have c4 := hr 4 _ rfl
        have c5 := hr 5 _ rfl
        have c6 := hr 6 _ rfl
        have c7 := hr 7 _ rfl
        have c8 := hr 8 _ rfl
        have c9 := hr 9 _ rfl
        have c10 := hr 10 _ rfl
        have c11 := hr 11 _ rfl
        have BT := Lib.hid ((H.out.mono HB.out).batch i hlt).1
        have HLT := Lib.hid hlt
        clear hr
        go_upto_region 4 with fail
        go_cut [6, 7] from 9 to 77 (fun s6 s7 wx => ∃ N6 N7 : Nat, s6 = .pointer (some ⟨N6, 0, none⟩) ∧ s7 = .pointer (some ⟨N7, 0, none⟩) ∧ Hid (Below wr.heap.size wr wx) ∧ wx.cell? ⟨N6, 1, none⟩ = some (.string (f i).k) ∧ wx.cell? ⟨N6, 2, none⟩ = some (.string (f i).r) ∧ wx.cell? ⟨N6, 3, none⟩ = some (.string (f i).i) ∧ wx.cell? ⟨N6, 5, none⟩ = some (.slice (f i).d.1 (f i).d.2.1 (f i).d.2.2) ∧ wx.cell? ⟨N7, 3, none⟩ = some (.slice (f i).l.1 (f i).l.2.1 (f i).l.2.2) ∧ wx.cell? ⟨N7, 4, none⟩ = some (.slice (f i).b.1 (f i).b.2.1 (f i).b.2.2))
        case first =>
          go_big_region
          · go_wp2
            go_meet
            case rel => exact ⟨_, _, rfl, rfl, Lib.hid (by go_grown), by simp, by simp, by simp, by simp, by simp, by simp⟩
          · go_wp2
            go_meet
            case rel => exact ⟨_, _, rfl, rfl, Lib.hid (by go_grown), by simp, by simp, by simp, by simp, by simp, by simp⟩
        case rest =>
        obtain ⟨N6, N7, rfl, rfl, HBC, x1, x2, x3, x4, x5, x6⟩ := hcut
        clear c1 c2 c3 c4 c5 c6 c7 c8 c9 c10 c11
        by_cases q1 : 300 < (f i).k.size
        · have d1 : decide ((300 : Int) < ((f i).k.size : Int)) = true := decide_eq_true (by omega)
          go_wp2
          go_ret
          exact ⟨_, rfl, HB.out.le HBC.out, false, rfl, fun e => nomatch e⟩
        · have d1 : decide ((300 : Int) < ((f i).k.size : Int)) = false := decide_eq_false (by omega)
          by_cases q2 : 300 < (f i).r.size
          · have d2 : decide ((300 : Int) < ((f i).r.size : Int)) = true := decide_eq_true (by omega)
            go_wp2
            go_ret
            exact ⟨_, rfl, HB.out.le HBC.out, false, rfl, fun e => nomatch e⟩
          · have d2 : decide ((300 : Int) < ((f i).r.size : Int)) = false := decide_eq_false (by omega)
            by_cases q3 : 300 < (f i).i.size
            · have d3 : decide ((300 : Int) < ((f i).i.size : Int)) = true := decide_eq_true (by omega)
              go_wp2
              go_ret
              exact ⟨_, rfl, HB.out.le HBC.out, false, rfl, fun e => nomatch e⟩
            · have d3 : decide ((300 : Int) < ((f i).i.size : Int)) = false := decide_eq_false (by omega)
              by_cases q4 : 300 < (f i).d.2.1
              · have d4 : decide ((300 : Int) < ((f i).d.2.1 : Int)) = true := decide_eq_true (by omega)
                go_wp2
                go_ret
                exact ⟨_, rfl, HB.out.le HBC.out, false, rfl, fun e => nomatch e⟩
              · have d4 : decide ((300 : Int) < ((f i).d.2.1 : Int)) = false := decide_eq_false (by omega)
                by_cases q5 : 20 < (f i).l.2.1
                · have d5 : decide ((20 : Int) < ((f i).l.2.1 : Int)) = true := decide_eq_true (by omega)
                  go_wp2
                  go_ret
                  exact ⟨_, rfl, HB.out.le HBC.out, false, rfl, fun e => nomatch e⟩
                · have d5 : decide ((20 : Int) < ((f i).l.2.1 : Int)) = false := decide_eq_false (by omega)
                  by_cases q6 : 20 < (f i).b.2.1
                  · have d6 : decide ((20 : Int) < ((f i).b.2.1 : Int)) = true := decide_eq_true (by omega)
                    go_wp2
                    go_ret
                    exact ⟨_, rfl, HB.out.le HBC.out, false, rfl, fun e => nomatch e⟩
                  · have d6 : decide ((20 : Int) < ((f i).b.2.1 : Int)) = false := decide_eq_false (by omega)
                    have bi : i ≤ 1000 := by omega
                    have X6 := Lib.hid x6
                    go_wp2
                    clear x1 x2 x3 x4 x5 x6 q1 q2 q3 q4 q5 hlt h60 d1 d2 d3 d4 d5 d6
                    go_loopw [8] (fun v wx => ∃ k : Nat, v = .int .i64 k ∧ k ≤ (f i).b.2.1 ∧ Hid (Below wc.heap.size wc wx)) (fun v _ => (f i).b.2.1 - (intOf v).toNat)
                    case atStart => exact ⟨0, rfl, Nat.zero_le _, Lib.hid (Below.refl _ _)⟩
                    case round =>
                      obtain ⟨k, rfl, hk, HBX⟩ := hrel
                      have bk : k ≤ 1000 := by omega
                      have y6 := cellKeep HBX.out X6.out
                      by_cases hkl : k < (f i).b.2.1
                      · obtain ⟨b2, o2, B2, m2, d2, e2, hm2, hc2⟩ := (((BT.out).mono HBC.out).mono HBX.out).2 k hkl
                        have HKL := Lib.hid hkl
                        rw [e2] at y6
                        by_cases h5 : 5000 < m2
                        · have d9 : decide ((5000 : Int) < (m2 : Int)) = true := decide_eq_true (by omega)
                          go_wp2
                          go_ret
                          exact ⟨_, rfl, (HB.out.le HBC.out).le HBX.out, false, rfl, fun e => nomatch e⟩
                        · have d9 : decide ((5000 : Int) < (m2 : Int)) = false := decide_eq_false (by omega)
                          go_wp2
                          go_roundw
                          case rel => exact ⟨k + 1, by simp, HKL.out, HBX⟩
                          case measure => have := HKL.out; simp [intOf]; omega
                      · have y7 := y6
                        go_wp2
                        go_roundw
                        case rel => exact ⟨i + 1, by simp, HLT.out, Lib.hid ((HB.out.le HBC.out).le HBX.out)⟩
                        case measure => have := HLT.out; simp [intOf]; omega
      · have hn60 : ¬ n ≤ 60 := by omega
        have d1 : decide ((i : Int) ≤ 60) = false := decide_eq_false (by omega)
        have d2 : decide ((n : Int) ≤ 60) = false := decide_eq_false (by omega)
        go_wp2
        go_ret
        exact ⟨_, rfl, HB.out, false, rfl, fun e => nomatch e⟩
    · have hin2 : i = n := by omega
      subst hin2
      by_cases h60 : i ≤ 60
      · have d2 : decide ((i : Int) ≤ 60) = true := decide_eq_true (by omega)
        go_wp2
        go_ret
        exact ⟨_, rfl, HB.out, true, rfl, fun _ => h60⟩
      · have d2 : decide ((i : Int) ≤ 60) = false := decide_eq_false (by omega)
        go_wp2
        go_ret
        exact ⟨_, rfl, HB.out, false, rfl, fun e => nomatch e⟩
end Go.Proofs.YtjddelmhbafelaaGreatDoor

/-
  slices.Delete of the one element.
-/
namespace Go.Proofs.YtjddelmhbafelaaGreatDoor
open Go.RowKit
theorem run_clear1 {w : World} {g c : Nat} {x : Int} (h : w.cell? ⟨g, 0, none⟩ = some (.int .i64 x)) (hz : w.frozen? ⟨g, 0, none⟩ = false) (ty : TypeId) :
    (Builtin.clear_ #[27] ty #[.slice (some ⟨g, 0, none⟩) 1 c]).run Tryz.prog w = .ok (.tuple #[]) (w.setCell ⟨g, 0, none⟩ (.int .i64 0)) := by
  simp [Builtin.clear_, run_underlying Tryz.underlying27, storeCells, Builtin.zeroCells, Value.cells, go_sem, h, hz]
set_option maxRecDepth 100000 in
set_option maxHeartbeats 4000000 in
theorem cDelete1 {w : World} {B g c : Nat} {v : Value} {x : Int} (h : One w B v g c x) : Calls Tryz.prog 35 #[v, .int .i64 0, .int .i64 1] w (fun e w' => ∃ A c, e = .returned (.slice A 0 c) ∧ Below B w w') := by
  obtain ⟨rfl, hB, hc, hm, hx, hz⟩ := h
  have hc2 : (1 : Int) ≤ (c : Int) := by omega
  have CL := Lib.hid (fun w' (hb : Below w.heap.size w w') ty => run_clear1 (c := c) (cellKeep hb hx) ((hb.frozen (p := ⟨g, 0, none⟩) (World.block_lt_of_cell? w _ hx)).trans hz) ty)
  have HB := Lib.hid hB; have HC := Lib.hid hc
  have HGZ := Lib.hid (World.block_lt_of_cell? w _ hx)
  clear hx hz hB hc
  go_enter Tryz.func35, Tryz.ntmps35
  go_wp2_with fail
  refine wp_region_M mixed (by kernel_rfl) ?_
  refine MDerR.step (Ob.move Wanted.free (Has.late 7)) ?_
  refine MDerR.step (Ob.move Wanted.free Has.oldIs) ?_
  refine MDerR.step (Ob.sliceToI Wanted.free (Has.new 0 1) (Has.new 1 0) (k := 0) (by omega)) ?_
  refine MDerR.step (Ob.move Wanted.free (Has.late 7)) ?_
  refine MDerR.step (Ob.move Wanted.free Has.oldIs) ?_
  refine MDerR.step (Ob.sliceFromI Wanted.free (Has.new 3 1) (Has.new 4 0) (k := 1) (by omega) (by have := HC.out; omega)) ?_
  refine MDerR.step (Ob.appNone Wanted.free (Has.new 2 3) (Has.new 5 0) (by omega)) ?_
  refine MDerR.step (Ob.assign Wanted.free (Has.new 6 0)) ?_
  simp only [MDerR, dstsOf, List.map, EndM, List.reverse_cons, List.reverse_nil, List.nil_append, List.cons_append]
  intro wE hE
  iterate 8 (rintro _ rfl)
  simp only [Act.put, List.setIfInBounds_toArray, List.set_cons_zero, List.set_cons_succ]
  have cl := CL.out _ hE
  go_wp2
  go_ret
  exact ⟨_, _, rfl, (hE.mono (by have := HB.out; have := HGZ.out; omega)).setCell (p := ⟨g, 0, none⟩) HB.out _⟩
end Go.Proofs.YtjddelmhbafelaaGreatDoor

/-
  search.goOn where one event is left: true, and it is the order.
-/
namespace Go.Proofs.YtjddelmhbafelaaGreatDoor
open Go.RowKit
theorem cell_set {w : World} {a : Addr} {v u : Value} (h : w.cell? a = some u) : (w.setCell a v).cell? a = some v := World.cell?_setCell_same w a v h
theorem cell_far {w : World} {a b : Addr} {v u : Value} (hne : b ≠ a) (h : w.cell? a = some u) : (w.setCell b v).cell? a = some u := by rw [World.cell?_setCell_other w b a v hne]; exact h
theorem Sl.setN {α : Type} {e : Enc α} {w : World} {A : Option Addr} {n c N o : Nat} {l : List α} {u : Value} (h : Sl e w A n c l) (hn : ∀ a, A = some a → a.block ≠ N) : Sl e (w.setCell ⟨N, o, none⟩ u) A n c l :=
  ⟨h.len, h.cap, h.max, h.nil, fun i x hi => by
    obtain ⟨b, o', rfl, hlt, h1⟩ := h.cell i x hi
    have hne : b ≠ N := hn _ rfl
    exact ⟨b, o', rfl, by rw [World.size_setCell]; exact hlt, fun j v hj => cell_far (fun e => hne (congrArg Addr.block e).symm) (h1 j v hj)⟩⟩
theorem cGoOnNil {w : World} {S K o c : Nat} {A : Option Addr} (h : w.cell? ⟨S, 1, none⟩ = some (.slice A 0 c)) : Calls Tryz.prog 24 #[.pointer (some ⟨S, 0, none⟩), .pointer (some ⟨K, o, none⟩)] w (Ret w (IsB true)) := by
  go_enter Tryz.func24, Tryz.ntmps24
  go_wp2
  go_ret
  exact retB rfl (Below.refl _ _)
/-- The search's block. -/
structure SAt (w : World) (S g n c : Nat) (A : Option Addr) (ca : Nat) : Prop where
  c0 : w.cell? ⟨S, 0, none⟩ = some (.slice (some ⟨g, 0, none⟩) n c)
  c1 : w.cell? ⟨S, 1, none⟩ = some (.slice A 1 ca)
  c2 : w.cell? ⟨S, 2, none⟩ = some (.slice none 0 0)
  z1 : w.frozen? ⟨S, 1, none⟩ = false
  z2 : w.frozen? ⟨S, 2, none⟩ = false
theorem SAt.mono {w w' : World} {S g n c : Nat} {A : Option Addr} {ca : Nat} (h : SAt w S g n c A ca) (hb : Below w.heap.size w w') : SAt w' S g n c A ca :=
  ⟨cellKeep hb h.c0, cellKeep hb h.c1, cellKeep hb h.c2, (hb.frozen (p := ⟨S, 1, none⟩) (World.block_lt_of_cell? w _ h.c1)).trans h.z1, (hb.frozen (p := ⟨S, 2, none⟩) (World.block_lt_of_cell? w _ h.c2)).trans h.z2⟩
set_option maxRecDepth 100000 in
set_option maxHeartbeats 4000000 in
theorem cGoOn {w : World} {B S K o g n c ca k : Nat} {A : Option Addr} (hs : SatG w) (hK : FreshG w K o) (he : Evs w g n k) (hk : k < n) (hn : n ≤ 4096) (hS : SAt w S g n c A ca) (hl : Sl encI w A 1 ca [(k : Int)]) (hB : B ≤ S) :
    Calls Tryz.prog 24 #[.pointer (some ⟨S, 0, none⟩), .pointer (some ⟨K, o, none⟩)] w
      (fun e w' => e = .returned (.bool true) ∧ Below B w w' ∧ ∃ A2 c2, w'.cell? ⟨S, 2, none⟩ = some (.slice A2 1 c2) ∧ Sl encI w' A2 1 c2 [(k : Int)]) := by
  obtain ⟨b, o1, x, rfl, -, h1, -, cA⟩ := hl.int (i := 0) (by simp)
  cases h1
  simp only [Nat.add_zero] at cA
  have HS := Lib.hid hs; have HK := Lib.hid hK; have HE := Lib.hid he; have HN := Lib.hid hn; have SA := Lib.hid hS; have SL := Lib.hid hl; have HB := Lib.hid hB; have HLT := Lib.hid hk
  have c1 := hS.c1
  clear hs hK he hn hS hl hB
  go_enter Tryz.func24, Tryz.ntmps24
  go_wp2
  refine wp_loop_rounds 1 ?_
  rw [rounds_succ]
  clear c1
  go_wp2_with fail
  refine (cCopy HS.out HK.out).mono ?_
  rintro _ w1 ⟨_, rfl, hb1, K2, o2, rfl, hK2⟩
  have HB1 := Lib.hid hb1; have K2F := Lib.hid hK2
  clear hb1 hK2 cA
  go_wp2_with fail
  refine (cFirst (HE.out.mono HB1.out) hk HN.out (SA.out.mono HB1.out).c0 (SA.out.mono HB1.out).c1 (SL.out.mono HB1.out)).mono ?_
  rintro _ w2 ⟨_, rfl, hb2, rfl⟩
  have HB2 := Lib.hid (HB1.out.le hb2); have K2G := Lib.hid (K2F.out.mono hb2)
  have c0 := (SA.out.mono HB2.out).c0
  have r := Evs.here (HE.out.mono HB2.out) hk
  have e0 : w2.cell? ⟨g, k * 15, none⟩ = some (.int .i64 0) := r 0 _ rfl
  have e1 : w2.cell? ⟨g, k * 15 + 1, none⟩ = some (.int .i64 4) := r 1 _ rfl
  have e2 : w2.cell? ⟨g, k * 15 + 2, none⟩ = some (.string ⟨⟨[97]⟩⟩) := r 2 _ rfl
  have e3 : w2.cell? ⟨g, k * 15 + 3, none⟩ = some (.string ⟨#[]⟩) := r 3 _ rfl
  have e4 : w2.cell? ⟨g, k * 15 + 4, none⟩ = some (.string ⟨#[]⟩) := r 4 _ rfl
  have e5 : w2.cell? ⟨g, k * 15 + 5, none⟩ = some (.int .i64 0) := r 5 _ rfl
  have e6 : w2.cell? ⟨g, k * 15 + 6, none⟩ = some (.slice none 0 0) := r 6 _ rfl
  have e7 : w2.cell? ⟨g, k * 15 + 7, none⟩ = some (.int .i64 4) := r 7 _ rfl
  have e8 : w2.cell? ⟨g, k * 15 + 8, none⟩ = some (.int .i64 0) := r 8 _ rfl
  have e9 : w2.cell? ⟨g, k * 15 + 9, none⟩ = some (.int .i64 0) := r 9 _ rfl
  have e10 : w2.cell? ⟨g, k * 15 + 10, none⟩ = some (.slice none 0 0) := r 10 _ rfl
  have e11 : w2.cell? ⟨g, k * 15 + 11, none⟩ = some (.slice none 0 0) := r 11 _ rfl
  have e12 : w2.cell? ⟨g, k * 15 + 12, none⟩ = some (.int .i64 k) := r 12 _ rfl
  have e13 : w2.cell? ⟨g, k * 15 + 13, none⟩ = some (.int .i64 9000) := r 13 _ rfl
  have e14 : w2.cell? ⟨g, k * 15 + 14, none⟩ = some (.int .i64 9001) := r 14 _ rfl
  clear hb2 HB1 K2F r
  go_wp2_with fail
  refine (cFits (sat_keep HS.out HB2.out) K2G.out k 9000 9001).mono ?_
  rintro _ w3 ⟨_, rfl, hb3, rfl⟩
  have HB3 := Lib.hid (HB2.out.le hb3); have K3 := Lib.hid (K2G.out.mono hb3)
  clear hb3 HB2 K2G c0 e0 e1 e2 e3 e4 e5 e6 e7 e8 e9 e10 e11 e12 e13 e14
  have c1 := (SA.out.mono HB3.out).c1
  go_wp2_with fail
  refine (cClone1 (SL.out.mono HB3.out)).mono ?_
  rintro _ w4 ⟨v4, rfl, hb4, ho4⟩
  obtain ⟨g4, c4, h4⟩ := ho4.one
  have HB4 := Lib.hid (HB3.out.le hb4); have B34 := Lib.hid hb4; have H4 := Lib.hid h4
  clear hb4 ho4 h4 c1
  go_wp2_with fail
  refine (cDelete1 H4.out).mono ?_
  rintro _ w5 ⟨A5, c5, rfl, hb5⟩
  have B35 := Lib.hid (B34.out.trans hb5)
  have sa5 := (SA.out.mono HB3.out).mono B35.out
  have HB5 := Lib.hid (HB3.out.le B35.out)
  have c1 := sa5.c1; have z1 := sa5.z1
  have d2 : (w5.setCell ⟨S, 1, none⟩ (.slice A5 0 c5)).cell? ⟨S, 2, none⟩ = some (.slice none 0 0) := cell_far (by simp) sa5.c2
  have hlt5 := World.block_lt_of_cell? w5 _ sa5.c1
  have HLT5 := Lib.hid hlt5
  have hltw := World.block_lt_of_cell? w _ SA.out.c1
  have hx0 : Below (w5.setCell ⟨S, 1, none⟩ (.slice A5 0 c5)).heap.size (w5.setCell ⟨S, 1, none⟩ (.slice A5 0 c5)) ((w5.setCell ⟨S, 1, none⟩ (.slice A5 0 c5)).alloc (.cells #[.int .i64 (k : Int)] 3)) := (Below.refl _ _).alloc (Nat.le_refl _) _
  have D1 := Lib.hid (cellKeep hx0 (cell_set sa5.c1 : (w5.setCell ⟨S, 1, none⟩ (.slice A5 0 c5)).cell? ⟨S, 1, none⟩ = some (.slice A5 0 c5)))
  have D2 := Lib.hid (cellKeep hx0 d2)
  have Z2 := Lib.hid ((hx0.frozen (p := ⟨S, 2, none⟩) (World.block_lt_of_cell? _ _ d2)).trans ((World.frozen?_setCell _ _ _ _).trans sa5.z2))
  have HBX := Lib.hid (show Below B w ((w5.setCell ⟨S, 1, none⟩ (.slice A5 0 c5)).alloc (.cells #[.int .i64 (k : Int)] 3)) from ((HB5.out.mono (by have := HB.out; have : S < w.heap.size := hltw; omega)).setCell (p := ⟨S, 1, none⟩) HB.out _).alloc (by have := HB.out; have : S < w5.heap.size := hlt5; simp; omega) _)
  have sl1 := Sl.oneI (w5.setCell ⟨S, 1, none⟩ (.slice A5 0 c5)) (k : Int) 3
  rw [World.size_setCell] at sl1
  have SL1 := Lib.hid sl1
  clear sl1
  have HLW := Lib.hid hltw
  clear hb5 sa5 hx0 hlt5 hltw HB5
  go_wp2_with (first | (at_builtin; refine Halt.go ?_) | fail)
  unfold Halt
  refine wpList_appS (B := w5.heap.size) (v := .slice none 0 0) (l := ([] : List Int)) infI rfl rfl Tryz.underlying27 rfl rfl (OwnSl.nil_ _ _ _ _) SL1.out (by simp) (by simp) ?_
  intro v7 w7 ho7 hg7 _
  obtain ⟨g7, c7, h7⟩ := OwnSl.one (x := (k : Int)) ho7
  obtain rfl := h7.eq
  have hb7 := (Below.refl _ _).grown hg7 (Nat.le_refl _) (fun q hq => absurd hq (by simp [Value.ownBlock]))
  have f2 := cellKeep hb7 D2.out
  have zf2 := (hb7.frozen (p := ⟨S, 2, none⟩) (World.block_lt_of_cell? _ _ D2.out)).trans Z2.out
  have F1 := Lib.hid (cellKeep hb7 D1.out)
  have H7 := Lib.hid h7; have HO7 := Lib.hid ho7; have HB7 := Lib.hid hb7
  clear hb7 h7 ho7 hg7 c1 z1 d2
  simp only [Act.put, List.setIfInBounds_toArray, List.set_cons_zero, List.set_cons_succ]
  go_wp2_with fail
  have F8 := Lib.hid (cell_far (v := .slice (some ⟨g7, 0, none⟩) 1 c7) (show (⟨S, 2, none⟩ : Addr) ≠ ⟨S, 1, none⟩ by simp) F1.out)
  have G8 := Lib.hid (cell_set (v := .slice (some ⟨g7, 0, none⟩) 1 c7) f2)
  have HB8 := Lib.hid ((HBX.out.trans (HB7.out.mono (by have := HBX.out.size; have := HB.out; have := HLW.out; simp at *; omega))).setCell (p := ⟨S, 2, none⟩) HB.out (.slice (some ⟨g7, 0, none⟩) 1 c7))
  clear f2 zf2
  refine (cGoOnNil F8.out).mono ?_
  rintro _ w9 ⟨_, rfl, hb9, rfl⟩
  have HB9 := Lib.hid hb9
  clear hb9
  have HSL := Lib.hid (show Sl encI w7 (some ⟨g7, 0, none⟩) 1 c7 [(k : Int)] from by
    obtain ⟨A', c', e', hs'⟩ := HO7.out.sl
    have e2 : Value.slice (some ⟨g7, 0, none⟩) 1 c7 = .slice A' 1 c' := e'
    cases e2
    exact hs')
  go_wp2
  go_ret
  refine ⟨rfl, HB8.out.trans (HB9.out.mono ?_), _, _, cellKeep HB9.out G8.out, (Sl.setN HSL.out ?_).mono HB9.out⟩
  · have := HB8.out.size; have := HB.out; have := HLW.out; omega
  · intro a ea
    cases ea
    have h1 : S < w5.heap.size := HLT5.out
    have := H7.out.low
    simp only
    omega
end Go.Proofs.YtjddelmhbafelaaGreatDoor

/-
  linear.Search and linear.Check where one event was made.
-/
namespace Go.Proofs.YtjddelmhbafelaaGreatDoor
open Go.RowKit
def confA : Value := .agg #[.int .i64 1, .int .i64 1, .int .i64 3, .int .i64 2]
set_option maxRecDepth 100000 in
set_option maxHeartbeats 4000000 in
theorem cSearch {w : World} {g n c k : Nat} (hs : SatG w) (he : Evs w g n k) (hk : k < n) (hn : n ≤ 4096) :
    Calls Tryz.prog 17 #[.agg #[.int .i64 1, .int .i64 1, .int .i64 3, .int .i64 2], .slice (some ⟨g, 0, none⟩) n c] w (Ret w (fun w' v => ∃ A d, v = .tuple #[.slice A 1 d, .bool true, .int .i64 0] ∧ Sl encI w' A 1 d [(k : Int)])) := by
  have HS := Lib.hid hs; have HE := Lib.hid he; have HN := Lib.hid hn; have HLT := Lib.hid hk
  have hx : Below w.heap.size w (w.alloc (.cells #[.int .i64 1, .int .i64 1, .int .i64 3, .int .i64 2] 43)) := (Below.refl _ _).alloc (Nat.le_refl _) _
  have HX := Lib.hid hx
  have hr := box_range w #[.int .i64 1, .int .i64 1, .int .i64 3, .int .i64 2] 43
  have HR := Lib.hid hr
  clear hs he hn hk hx hr
  go_enter Tryz.func17, Tryz.ntmps17
  go_wp2_with fail
  refine (cOrder (c := c) (HE.out.mono HX.out) HLT.out HN.out).mono ?_
  rintro _ w1 ⟨_, rfl, hb1, A, c1, rfl, hl1⟩
  have HB1 := Lib.hid (HX.out.le hb1); have SL := Lib.hid hl1
  have r := rangeKeep HR.out hb1
  have q0 : w1.cell? ⟨w.heap.size, 0, none⟩ = some (.int .i64 1) := r 0 _ rfl
  have q1 : w1.cell? ⟨w.heap.size, 1, none⟩ = some (.int .i64 1) := r 1 _ rfl
  have q2 : w1.cell? ⟨w.heap.size, 2, none⟩ = some (.int .i64 3) := r 2 _ rfl
  have q3 : w1.cell? ⟨w.heap.size, 3, none⟩ = some (.int .i64 2) := r 3 _ rfl
  clear hb1 hl1 r
  go_wp2_with fail
  refine (cNewG (sat_keep HS.out HB1.out)).mono ?_
  rintro _ w2 ⟨_, rfl, hb2, K, o, rfl, hK⟩
  have HB2 := Lib.hid (HB1.out.le hb2); have HK := Lib.hid hK
  replace SL := Lib.hid (SL.out.mono hb2)
  clear hb2 hK q0 q1 q2 q3
  go_wp2_with fail
  refine (cSort (sat_keep HS.out HB2.out) A c1).mono ?_
  rintro _ w3 ⟨_, rfl, hb3, rfl⟩
  have HB3 := Lib.hid (HB2.out.le hb3)
  have hb4 : Below w3.heap.size w3 (w3.alloc (.cells #[.slice (some ⟨g, 0, none⟩) n c, .slice A 1 c1, .slice none 0 0] 65)) := (Below.refl _ _).alloc (Nat.le_refl _) _
  have r := box_range w3 #[.slice (some ⟨g, 0, none⟩) n c, .slice A 1 c1, .slice none 0 0] 65
  have HK4 := Lib.hid ((HK.out.mono hb3).mono hb4); have SL4 := Lib.hid ((SL.out.mono hb3).mono hb4); have HB4 := Lib.hid (HB3.out.le hb4)
  have S4 := Lib.hid (show SAt _ w3.heap.size g n c A c1 from ⟨r 0 _ rfl, r 1 _ rfl, r 2 _ rfl, frozen_of_row _ _ _ _ _ (heap_alloc_new w3 _), frozen_of_row _ _ _ _ _ (heap_alloc_new w3 _)⟩)
  clear hb3 hb4 r
  go_wp2_with fail
  refine (cGoOn (sat_keep HS.out HB4.out) HK4.out (HE.out.mono HB4.out) HLT.out HN.out S4.out SL4.out (Nat.le_refl _)).mono ?_
  rintro _ w5 ⟨rfl, hb5, A2, c2, f2, hl2⟩
  have HB5 := Lib.hid (show Below w.heap.size w w5 from HB3.out.trans (((Below.refl w3.heap.size w3).alloc (Nat.le_refl _) _ |>.trans hb5).mono HB3.out.size))
  have HL2 := Lib.hid hl2
  clear hb5 hl2
  go_wp2
  refine bodyPost_ret (v := .tuple #[.slice A2 1 c2, .bool true, .int .i64 0]) (by simp [results, Tryz.results17, go_sem]) rfl ?_
  exact ⟨_, rfl, HB5.out, _, _, rfl, HL2.out⟩
theorem cSearchLong (A : Option Addr) (n c : Nat) (w : World) (h : 4096 < n) (hn : n ≤ 9223372036854775807) : Calls Tryz.prog 17 #[.agg #[.int .i64 1, .int .i64 1, .int .i64 3, .int .i64 2], .slice A n c] w (Ret w (Is (.tuple #[.slice none 0 0, .bool false, .int .i64 5]))) := by
  have HX := Lib.hid (show Below w.heap.size w (w.alloc (.cells #[.int .i64 1, .int .i64 1, .int .i64 3, .int .i64 2] 43)) from (Below.refl _ _).alloc (Nat.le_refl _) _)
  have O := Lib.hid (fun w => cOrderLong A n c w h hn)
  clear h
  go_enter Tryz.func17, Tryz.ntmps17
  go_wp2_with fail
  refine (O.out _).mono ?_
  rintro _ w1 ⟨_, rfl, hb1, rfl⟩
  have HB := Lib.hid (HX.out.le hb1)
  clear hb1
  go_wp2
  refine bodyPost_ret (v := .tuple #[.slice none 0 0, .bool false, .int .i64 5]) (by simp [results, Tryz.results17, go_sem]) rfl ?_
  exact ⟨_, rfl, HB.out, rfl⟩
end Go.Proofs.YtjddelmhbafelaaGreatDoor

/-
  linear.Check where one event was made.
-/
namespace Go.Proofs.YtjddelmhbafelaaGreatDoor
open Go.RowKit
set_option maxRecDepth 100000 in
set_option maxHeartbeats 4000000 in
theorem cCheck {w : World} {g n c k : Nat} (hs : SatG w) (he : Evs w g n k) (hk : k < n) (hn : n ≤ 4096) :
    Calls Tryz.prog 16 #[.agg #[.int .i64 1, .int .i64 1, .int .i64 3, .int .i64 2], .slice (some ⟨g, 0, none⟩) n c] w (Ret w (Is (.tuple #[.int .i64 (-1), .int .i64 0, .int .i64 0]))) := by
  have HS := Lib.hid hs; have HE := Lib.hid he; have HN := Lib.hid hn
  have d1 : decide ((9000 : Int) < (k : Int)) = false := decide_eq_false (by omega)
  have hx : Below w.heap.size w (w.alloc (.cells #[.int .i64 1, .int .i64 1, .int .i64 3, .int .i64 2] 43)) := (Below.refl _ _).alloc (Nat.le_refl _) _
  have HX := Lib.hid hx
  have hr := box_range w #[.int .i64 1, .int .i64 1, .int .i64 3, .int .i64 2] 43
  have HR := Lib.hid hr
  clear hs he hn hx hr
  go_enter Tryz.func16, Tryz.ntmps16
  go_wp2_with fail
  refine (cOrder (c := c) (HE.out.mono HX.out) hk HN.out).mono ?_
  rintro _ w1 ⟨_, rfl, hb1, A, c1, rfl, hl1⟩
  have HB1 := Lib.hid (HX.out.le hb1); have SL := Lib.hid hl1
  have r := rangeKeep HR.out hb1
  have q0 : w1.cell? ⟨w.heap.size, 0, none⟩ = some (.int .i64 1) := r 0 _ rfl
  have q1 : w1.cell? ⟨w.heap.size, 1, none⟩ = some (.int .i64 1) := r 1 _ rfl
  have q2 : w1.cell? ⟨w.heap.size, 2, none⟩ = some (.int .i64 3) := r 2 _ rfl
  have q3 : w1.cell? ⟨w.heap.size, 3, none⟩ = some (.int .i64 2) := r 3 _ rfl
  clear hb1 hl1 r
  go_wp2_with fail
  refine (cNewG (sat_keep HS.out HB1.out)).mono ?_
  rintro _ w2 ⟨_, rfl, hb2, K, o, rfl, hK⟩
  have HB2 := Lib.hid (HB1.out.le hb2); have HK := Lib.hid hK
  have hl2 := SL.out.mono hb2
  clear hb2 hK q0 q1 q2 q3 SL
  obtain ⟨b, o1, x, rfl, -, h1, -, cA⟩ := hl2.int (i := 0) (by simp)
  cases h1
  simp only [Nat.add_zero] at cA
  clear hl2
  go_wp2
  have R := Lib.hid (Evs.here (HE.out.mono HB2.out) hk)
  have hbox := box_new w2 evZ 40 (evC k 9000 9001) rfl
  obtain ⟨W2, hW2⟩ : ∃ W2, W2 = (w2.alloc (.cells evZ 40)).setCells w2.heap.size 0 (evC k 9000 9001) := ⟨_, rfl⟩
  rw [← hW2] at hbox
  have HW2 := Lib.hid hW2
  have HB3 := Lib.hid (HB2.out.le hbox.1)
  have K3 := Lib.hid (HK.out.mono hbox.1)
  have RB := Lib.hid hbox.2
  have C12 := Lib.hid (show W2.cell? ⟨w2.heap.size, 12, none⟩ = some (.int .i64 k) from hbox.2 12 _ rfl)
  have C13 := Lib.hid (show W2.cell? ⟨w2.heap.size, 13, none⟩ = some (.int .i64 9000) from hbox.2 13 _ rfl)
  have C14 := Lib.hid (show W2.cell? ⟨w2.heap.size, 14, none⟩ = some (.int .i64 9001) from hbox.2 14 _ rfl)
  clear hbox hW2
  refine wp_loop_rounds 2 ?_
  rw [rounds_succ]
  go_wp2_with (first
    | (refine wpList_load_mid rfl 40 _ rfl _ _ rfl _ _ R.out Tryz.underlying40 rfl (show (Tryz.prog.info? 40).map (·.size) = some 15 by kernel_rfl) ?_; simp only [evC, Act.put, List.setIfInBounds_toArray, List.set_cons_zero, List.set_cons_succ])
    | (refine wpList_store_mid rfl 40 _ _ rfl w2.heap.size 0 (evA k 9000 9001) rfl rfl (there_new w2 _ _) (show (Tryz.prog.info? 40).map (·.size) = some 15 by kernel_rfl) (ev_one _ _ _) ?_;
       simp only [Act.put, List.setIfInBounds_toArray, List.set_cons_zero, List.set_cons_succ];
       refine cast_world HW2.out ?_; have x12 := C12.out; have x13 := C13.out; have x14 := C14.out)
    | fail)
  refine wp_region_M mixed (by kernel_rfl) ?_
  refine MDerR.step (Ob.move Wanted.free Has.oldIs) ?_
  refine MDerR.step (Ob.binV Wanted.free (Has.new 0 0) (Has.cst _) (fun w1 => int_gtr false (by simp))) ?_
  refine MDerR.step (Ob.move Wanted.free (Has.new 1 0)) ?_
  refine MDerR.step (Ob.off 2 0) ?_
  refine MDerR.step (Ob.off 2 1) ?_
  refine MDerR.step (Ob.off 2 2) ?_
  refine MDerR.step (Ob.off 2 3) ?_
  refine MDerR.step (Ob.off 2 4) ?_
  refine MDerR.step (Ob.off 2 5) ?_
  refine MDerR.step (Ob.off 2 6) ?_
  refine MDerR.step (Ob.off 2 7) ?_
  refine MDerR.step (Ob.off 2 8) ?_
  refine MDerR.step (Ob.off 2 9) ?_
  refine MDerR.step (Ob.off 2 10) ?_
  refine MDerR.step (Ob.off 2 11) ?_
  refine MDerR.step (Ob.pickF Wanted.free (Has.new 2 12) (Has.cst _)) ?_
  refine MDerR.step (Ob.assign Wanted.free (Has.new 15 0)) ?_
  simp only [MDerR, dstsOf, List.map, EndM, List.reverse_cons, List.reverse_nil, List.nil_append, List.cons_append]
  intro wE hE
  iterate 17 (rintro _ rfl)
  simp only [Act.put, List.setIfInBounds_toArray, List.set_cons_zero, List.set_cons_succ]
  have R2 := Lib.hid (rangeKeep RB.out hE)
  have HB4 := Lib.hid (HB3.out.le hE)
  have K4 := Lib.hid (K3.out.mono hE)
  clear x12 x13 x14
  go_wp2_with (first
  | (refine wpList_load_mid rfl 40 _ rfl _ _ rfl _ _ R2.out Tryz.underlying40 rfl (show (Tryz.prog.info? 40).map (·.size) = some 15 by kernel_rfl) ?_; simp only [evC, Act.put, List.setIfInBounds_toArray, List.set_cons_zero, List.set_cons_succ])
  | fail)
  refine (cFits (sat_keep HS.out HB4.out) K4.out k 9000 9001).mono ?_
  rintro _ w5 ⟨_, rfl, hb5, rfl⟩
  have HB5 := Lib.hid (HB4.out.le hb5)
  clear hb5
  go_wp2
  rw [rounds_succ]
  go_wp2
  refine bodyPost_ret (v := .tuple #[.int .i64 (-1), .int .i64 0, .int .i64 0]) (by simp [results, Tryz.results16, go_sem]) rfl ?_
  exact ⟨_, rfl, HB5.out, rfl⟩
theorem cCheckLong (A : Option Addr) (n c : Nat) (w : World) (h : 4096 < n) (hn : n ≤ 9223372036854775807) : Calls Tryz.prog 16 #[.agg #[.int .i64 1, .int .i64 1, .int .i64 3, .int .i64 2], .slice A n c] w (Ret w (Is (.tuple #[.int .i64 0, .int .i64 0, .int .i64 5]))) := by
  have HX := Lib.hid (show Below w.heap.size w (w.alloc (.cells #[.int .i64 1, .int .i64 1, .int .i64 3, .int .i64 2] 43)) from (Below.refl _ _).alloc (Nat.le_refl _) _)
  have O := Lib.hid (fun w => cOrderLong A n c w h hn)
  clear h
  go_enter Tryz.func16, Tryz.ntmps16
  go_wp2_with fail
  refine (O.out _).mono ?_
  rintro _ w1 ⟨_, rfl, hb1, rfl⟩
  have HB := Lib.hid (HX.out.le hb1)
  clear hb1
  go_wp2
  refine bodyPost_ret (v := .tuple #[.int .i64 0, .int .i64 0, .int .i64 5]) (by simp [results, Tryz.results16, go_sem]) rfl ?_
  exact ⟨_, rfl, HB.out, rfl⟩
end Go.Proofs.YtjddelmhbafelaaGreatDoor

/-
  The law's questions: orders, checks, finds.
-/
namespace Go.Proofs.YtjddelmhbafelaaGreatDoor
open Go.RowKit
theorem lOrders {w : World} {g n c k : Nat} {A : Option Addr} {d : Nat} (he : Evs w g n k) (hk : k < n) (hn : n ≤ 4096) (hl : Sl encI w A 1 d [(k : Int)]) :
    Calls Tryz.prog 7 #[.slice (some ⟨g, 0, none⟩) n c, .int .i64 0, .slice A 1 d] w (Ret w (IsB true)) := by
  have C := Lib.hid (cOrder (c := c) he hk hn); have SL := Lib.hid hl
  clear he hk hn hl
  go_enter Tryz.func7, Tryz.ntmps7
  go_wp2_with fail
  refine C.out.mono ?_
  rintro _ w1 ⟨_, rfl, hb1, A1, c1, rfl, hl1⟩
  have HB := Lib.hid hb1
  have I := Lib.hid (rInts _ _ _ _ _ _ _ _ _ hl1 (SL.out.mono hb1))
  clear hb1 hl1
  go_wp2_with fail
  refine I.out.mono ?_
  rintro _ w2 ⟨_, rfl, hb2, rfl⟩
  have HB2 := Lib.hid (HB.out.le hb2)
  clear hb2
  simp only [decide_true]
  go_wp2
  go_ret
  exact retB rfl HB2.out
theorem lOrdersLong (A : Option Addr) (n c : Nat) (w : World) (h : 4096 < n) (hn : n ≤ 9223372036854775807) :
    Calls Tryz.prog 7 #[.slice A n c, .int .i64 5, .slice none 0 0] w (Ret w (IsB true)) := by
  have C := Lib.hid (cOrderLong A n c w h hn)
  clear h
  go_enter Tryz.func7, Tryz.ntmps7
  go_wp2_with fail
  refine C.out.mono ?_
  rintro _ w1 ⟨_, rfl, hb1, rfl⟩
  have HB := Lib.hid hb1
  have I := Lib.hid (rInts none none 0 0 0 0 [] [] w1 (Sl.nil_ encI w1) (Sl.nil_ encI w1))
  clear hb1
  go_wp2_with fail
  refine I.out.mono ?_
  rintro _ w2 ⟨_, rfl, hb2, rfl⟩
  have HB2 := Lib.hid (HB.out.le hb2)
  clear hb2
  simp only [decide_true]
  go_wp2
  go_ret
  exact retB rfl HB2.out
theorem lChecks {w : World} {g n c k : Nat} (hs : SatG w) (he : Evs w g n k) (hk : k < n) (hn : n ≤ 4096) :
    Calls Tryz.prog 11 #[.agg #[.int .i64 1, .int .i64 1, .int .i64 3, .int .i64 2], .slice (some ⟨g, 0, none⟩) n c, .int .i64 (-1), .int .i64 0, .int .i64 0] w (Ret w (IsB true)) := by
  have HX := Lib.hid (show Below w.heap.size w (w.alloc (.cells #[.int .i64 1, .int .i64 1, .int .i64 3, .int .i64 2] 43)) from (Below.refl _ _).alloc (Nat.le_refl _) _)
  have C := Lib.hid (cCheck (c := c) (sat_keep hs HX.out) (he.mono HX.out) hk hn)
  clear hs he hk hn
  go_enter Tryz.func11, Tryz.ntmps11
  go_wp2_with fail
  refine C.out.mono ?_
  rintro _ w1 ⟨_, rfl, hb1, rfl⟩
  have HB := Lib.hid (HX.out.le hb1)
  clear hb1
  go_wp2
  go_ret
  exact retB rfl HB.out
theorem lChecksLong (A : Option Addr) (n c : Nat) (w : World) (h : 4096 < n) (hn : n ≤ 9223372036854775807) :
    Calls Tryz.prog 11 #[.agg #[.int .i64 1, .int .i64 1, .int .i64 3, .int .i64 2], .slice A n c, .int .i64 0, .int .i64 0, .int .i64 5] w (Ret w (IsB true)) := by
  have HX := Lib.hid (show Below w.heap.size w (w.alloc (.cells #[.int .i64 1, .int .i64 1, .int .i64 3, .int .i64 2] 43)) from (Below.refl _ _).alloc (Nat.le_refl _) _)
  have C := Lib.hid (fun w => cCheckLong A n c w h hn)
  clear h
  go_enter Tryz.func11, Tryz.ntmps11
  go_wp2_with fail
  refine (C.out _).mono ?_
  rintro _ w1 ⟨_, rfl, hb1, rfl⟩
  have HB := Lib.hid (HX.out.le hb1)
  clear hb1
  go_wp2
  go_ret
  exact retB rfl HB.out
theorem lFinds {w : World} {g n c k : Nat} {A : Option Addr} {d : Nat} (hs : SatG w) (he : Evs w g n k) (hk : k < n) (hn : n ≤ 4096) (hl : Sl encI w A 1 d [(k : Int)]) :
    Calls Tryz.prog 12 #[.agg #[.int .i64 1, .int .i64 1, .int .i64 3, .int .i64 2], .slice (some ⟨g, 0, none⟩) n c, .bool true, .int .i64 0, .slice A 1 d] w (Ret w (IsB true)) := by
  have HX := Lib.hid (show Below w.heap.size w (w.alloc (.cells #[.int .i64 1, .int .i64 1, .int .i64 3, .int .i64 2] 43)) from (Below.refl _ _).alloc (Nat.le_refl _) _)
  have C := Lib.hid (cSearch (c := c) (sat_keep hs HX.out) (he.mono HX.out) hk hn); have SL := Lib.hid hl
  clear hs he hk hn hl
  go_enter Tryz.func12, Tryz.ntmps12
  go_wp2_with fail
  refine C.out.mono ?_
  rintro _ w1 ⟨_, rfl, hb1, A1, c1, rfl, hl1⟩
  have HB := Lib.hid (HX.out.le hb1)
  have I := Lib.hid (rInts _ _ _ _ _ _ _ _ _ hl1 (SL.out.mono (HX.out.le hb1)))
  clear hb1 hl1
  go_wp2_with fail
  refine I.out.mono ?_
  rintro _ w2 ⟨_, rfl, hb2, rfl⟩
  have HB2 := Lib.hid (HB.out.le hb2)
  clear hb2
  simp only [decide_true]
  go_wp2
  go_ret
  exact retB rfl HB2.out
theorem lFindsLong (A : Option Addr) (n c : Nat) (w : World) (h : 4096 < n) (hn : n ≤ 9223372036854775807) :
    Calls Tryz.prog 12 #[.agg #[.int .i64 1, .int .i64 1, .int .i64 3, .int .i64 2], .slice A n c, .bool false, .int .i64 5, .slice none 0 0] w (Ret w (IsB true)) := by
  have HX := Lib.hid (show Below w.heap.size w (w.alloc (.cells #[.int .i64 1, .int .i64 1, .int .i64 3, .int .i64 2] 43)) from (Below.refl _ _).alloc (Nat.le_refl _) _)
  have C := Lib.hid (fun w => cSearchLong A n c w h hn)
  clear h
  go_enter Tryz.func12, Tryz.ntmps12
  go_wp2_with fail
  refine (C.out _).mono ?_
  rintro _ w1 ⟨_, rfl, hb1, rfl⟩
  have HB := Lib.hid (HX.out.le hb1)
  have I := Lib.hid (rInts none none 0 0 0 0 [] [] w1 (Sl.nil_ encI w1) (Sl.nil_ encI w1))
  clear hb1
  go_wp2_with fail
  refine I.out.mono ?_
  rintro _ w2 ⟨_, rfl, hb2, rfl⟩
  have HB2 := Lib.hid (HB.out.le hb2)
  clear hb2
  simp only [decide_true]
  go_wp2
  go_ret
  exact retB rfl HB2.out
theorem lGet (i m a : Int) (w : World) : Calls Tryz.prog 9 #[.int .i64 i, .int .i64 m, .int .i64 a] w (Ret w (Is (.agg (evA i m a)))) := by
  go_enter Tryz.func9, Tryz.ntmps9
  go_wp2
  refine bodyPost_ret (v := .agg (evA i m a)) (by simp [results, Tryz.results9, go_sem, evA]) rfl ?_
  exact ⟨_, rfl, by go_grown, rfl⟩
end Go.Proofs.YtjddelmhbafelaaGreatDoor

/-
  LinearLongs: of any numbers, over the package variables as the program's text lays them, the law returns true.
-/
namespace Go.Proofs.YtjddelmhbafelaaGreatDoor
open Go.RowKit
theorem lGiven (w : World) : Calls Tryz.prog 10 #[] w (Ret w (Is (.agg #[.int .i64 1, .int .i64 1, .int .i64 3, .int .i64 2]))) := by
  go_enter Tryz.func10, Tryz.ntmps10
  go_wp2
  refine bodyPost_ret (v := .agg #[.int .i64 1, .int .i64 1, .int .i64 3, .int .i64 2]) (by simp [results, Tryz.results10, go_sem]) rfl ?_
  exact ⟨_, rfl, by go_grown, rfl⟩
theorem info_ev : (Tryz.prog.info? 40).map (fun i => (i.size, (i.zero.map Value.cells), decide (i.bytes ≤ 1000))) = some (15, some evZ, true) := by kernel_rfl
theorem wpList_makeE {P : Program} (w : World) {ops : Array Oper} {rest : List Oper} {o : Oper} {a : Act} {Q : Exit → Act → World → Prop}
    (hg : o.guard = none) (l c : Operand) (hop : o.op = Op.makeSlice 22 l c) (hP : P = Tryz.prog) (L : Int) (n : Nat) (hl : a.eval l = .int .i64 L) (hc : a.eval c = .int .i64 L) (hL : L = (n : Int)) (hn : n ≤ 1000000)
    (hK : wpList P ops Q rest (a.put o.dst (.slice (some ⟨w.heap.size, 0, none⟩) n n)) (w.alloc (.cells (madeCells evZ (n * 15)) 40))) :
    wpList P ops Q (o :: rest) a w := by
  subst hP
  subst hL
  refine wpList_plain hg fun K hK' => ?_
  obtain ⟨i, hi, hzz⟩ := Option.map_eq_some_iff.1 info_ev
  simp only [Prod.mk.injEq] at hzz
  obtain ⟨h1, h2, h3⟩ := hzz
  obtain ⟨z, hz, hz2⟩ := Option.map_eq_some_iff.1 h2
  have h4 : i.bytes ≤ 1000 := of_decide_eq_true h3
  have h5 : i.bytes * n ≤ 1000 * 1000000 := Nat.mul_le_mul h4 hn
  have hb' : (i.bytes : Int) * (n : Int) ≤ 281474976710656 := by
    have h : ((i.bytes * n : Nat) : Int) ≤ 281474976710656 := by omega
    rwa [Int.natCast_mul] at h
  have hrun := run_make (P := Tryz.prog) w 22 40 i z Tryz.underlying22 hi hz .i64 .i64 n n (by omega) (Int.le_refl _) hb' (by omega)
  simp only [Int.toNat_natCast, h1, hz2] at hrun
  unfold Oper.wp
  simp [execOp, hop, hl, hc, hrun, Result.andThen]
  exact hK' _ _ hK
/-- The first j events are filled. -/
def FillRel (w : World) (g n : Nat) (i : Value) (wr : World) : Prop :=
  ∃ j : Nat, i = .int .i64 j ∧ j ≤ n ∧ Below w.heap.size w wr ∧ Arr wr g n 15 (fun q => if q < j then evC q (-1) (-1) else evZ.toList)
theorem Arr.putE {w0 w : World} {g n : Nat} {F : Nat → List Value} (h : Arr w g n 15 F) (hg : w0.heap.size ≤ g) (hb : Below w0.heap.size w0 w) {i : Nat} (hi : i < n) (q m a : Int) :
    Arr (w.setCells g (i * 15) (evC q m a)) g n 15 (fun j => if j = i then evC q m a else F j) ∧ Below w0.heap.size w0 (w.setCells g (i * 15) (evC q m a)) :=
  ⟨h.store hi rfl, belowCells hg _ _ _ hb⟩
set_option maxRecDepth 100000 in
set_option maxHeartbeats 4000000 in
theorem lawLongs (more at_ : Int) (w : World) (ha : 0 ≤ at_ ∧ at_ ≤ 65535) (hs : V.Sat 400 V.still (V.lk G0) w ∧ V.WF 400 (V.lk G0) 400) :
    Calls Tryz.prog 4 #[.int .i64 more, .int .u16 at_] w (Ret w (IsB true)) := by
  have HS := Lib.hid hs
  clear hs
  by_cases h1 : more < -2
  · have d1 : decide (more < -2) = true := decide_eq_true h1
    clear ha h1
    go_enter Tryz.func4, Tryz.ntmps4
    go_wp2_with fail
    refine (known_true HS.out).mono ?_
    rintro _ w9 ⟨_, rfl, hb9, rfl⟩
    go_wp2
    go_ret
    exact retB rfl hb9
  by_cases h2 : 2 < more
  · have d1 : decide (more < -2) = false := decide_eq_false h1
    have d2 : decide (2 < more) = true := decide_eq_true h2
    clear ha h1 h2
    go_enter Tryz.func4, Tryz.ntmps4
    go_wp2_with fail
    refine (known_true HS.out).mono ?_
    rintro _ w9 ⟨_, rfl, hb9, rfl⟩
    go_wp2
    go_ret
    exact retB rfl hb9
  have d1 : decide (more < -2) = false := decide_eq_false h1
  have d2 : decide (2 < more) = false := decide_eq_false h2
  obtain ⟨n, hn⟩ : ∃ n : Nat, 4096 + more = (n : Int) := ⟨(4096 + more).toNat, by omega⟩
  have WR := Lib.hid (show wrap64 (4096 + more) = (n : Int) by unfold wrap64; omega)
  have HN := Lib.hid hn; have HA := Lib.hid ha; have H1 := Lib.hid h1; have H2 := Lib.hid h2
  clear hn ha h1 h2
  go_enter Tryz.func4, Tryz.ntmps4
  go_wp2_with (first | (at_make; refine Halt.go ?_) | fail)
  unfold Halt
  have hn1 : n ≤ 4098 ∧ 4094 ≤ n := by
    have h3 := of_decide_eq_false d1; have h4 := of_decide_eq_false d2; have := HN.out
    omega
  have HN1 := Lib.hid hn1
  have HBG : n ≤ 9223372036854775807 := by omega
  clear hn1 d1 d2
  refine wpList_makeE w rfl _ _ rfl rfl _ n rfl rfl WR.out (by have := HN1.out; omega) ?_
  simp only [Act.put, List.setIfInBounds_toArray, List.set_cons_zero, List.set_cons_succ]
  have arr := Arr.made w evZ n 40 (by decide)
  have hb0 : Below w.heap.size w (w.alloc (.cells (madeCells evZ (n * 15)) 40)) := (Below.refl _ _).alloc (Nat.le_refl _) _
  have arr : Arr (w.alloc (.cells (madeCells evZ (n * 15)) 40)) w.heap.size n 15 (fun _ => evZ.toList) := arr
  generalize w.alloc (.cells (madeCells evZ (n * 15)) 40) = W0 at *
  have ARR := Lib.hid arr; have HB := Lib.hid hb0
  clear arr hb0
  go_wp2
  go_loopw [6] (fun i wr => FillRel w w.heap.size n i wr) (fun i _ => n - (intOf i).toNat)
  case atStart => exact ⟨0, rfl, Nat.zero_le _, HB.out, ARR.out.congr fun i _ => by simp⟩
  case round =>
    clear ARR HB
    obtain ⟨k, rfl, hk, hb, arr⟩ := hrel
    have ARR := Lib.hid arr; have HB := Lib.hid hb
    clear arr hb
    by_cases hlt : k < n
    · have HLT := Lib.hid hlt
      go_wp2_with fail
      refine (lGet k (-1) (-1) _).mono ?_
      rintro _ w2 ⟨_, rfl, hb2, rfl⟩
      replace ARR := Lib.hid (ARR.out.mono hb2); replace HB := Lib.hid (HB.out.le hb2)
      clear hb2
      have HP := Lib.hid (ARR.out.putE (Nat.le_refl _) HB.out hlt k (-1) (-1))
      obtain ⟨W2, hW2⟩ : ∃ W2, W2 = w2.setCells w.heap.size (k * 15) (evC k (-1) (-1)) := ⟨_, rfl⟩
      rw [← hW2] at HP
      have HW2 := Lib.hid hW2
      clear hW2
      go_wp2_with (first
        | (refine wpList_store_mid rfl 40 _ _ rfl w.heap.size (k * 15) (evA k (-1) (-1)) rfl rfl (ARR.out.part HLT.out) (show (Tryz.prog.info? 40).map (·.size) = some 15 by kernel_rfl) (ev_one _ _ _) ?_
           simp only [Act.put, List.setIfInBounds_toArray, List.set_cons_zero, List.set_cons_succ]
           refine cast_world HW2.out ?_)
        | fail)
      go_roundw
      case rel => exact ⟨k + 1, by simp, HLT.out, HP.out.2, HP.out.1.congr fun i _ => by
        by_cases e : i = k
        · simp [e]
        · have : (i < k + 1) = (i < k) := by simp; omega
          simp [e, this]⟩
      case measure => simp [intOf]; omega
    · have hkn : k = n := by omega
      subst hkn
      clear hk hlt
      replace ARR := Lib.hid (ARR.out.congr (k := fun q => evC q (-1) (-1)) fun i hi => by simp [hi])
      obtain ⟨a, rfl⟩ : ∃ a : Nat, at_ = (a : Int) := ⟨at_.toNat, by have := HA.out; omega⟩
      have hkn : 0 < k := by have := HN1.out; omega
      have hk0 : ¬ k = 0 := by omega
      have hk1 : ((k : Int) == 0) = false := by simp; omega
      obtain ⟨m, hm⟩ : ∃ m, m = a % k := ⟨_, rfl⟩
      have hmk : m < k := by rw [hm]; exact Nat.mod_lt _ hkn
      have hwm : (wrap64 (a : Int)).tmod (k : Int) = (m : Int) := by
        have e : wrap64 (a : Int) = a := by have := HA.out; unfold wrap64; omega
        rw [e, hm]; rfl
      clear hm
      have HM := Lib.hid hmk
      go_wp2_with fail
      refine (lGet m 9000 9001 _).mono ?_
      rintro _ w2 ⟨_, rfl, hb2, rfl⟩
      replace ARR := Lib.hid (ARR.out.mono hb2); replace HB := Lib.hid (HB.out.le hb2)
      clear hb2
      have HP := Lib.hid (ARR.out.putE (Nat.le_refl _) HB.out HM.out m 9000 9001)
      obtain ⟨W2, hW2⟩ : ∃ W2, W2 = w2.setCells w.heap.size (m * 15) (evC m 9000 9001) := ⟨_, rfl⟩
      rw [← hW2] at HP
      have HW2 := Lib.hid hW2
      clear hW2
      go_wp2_with (first
        | (refine wpList_store_mid rfl 40 _ _ rfl w.heap.size (m * 15) (evA m 9000 9001) rfl rfl (ARR.out.part HM.out) (show (Tryz.prog.info? 40).map (·.size) = some 15 by kernel_rfl) (ev_one _ _ _) ?_
           simp only [Act.put, List.setIfInBounds_toArray, List.set_cons_zero, List.set_cons_succ]
           refine cast_world HW2.out ?_)
        | fail)
      have EV := Lib.hid (show Evs W2 w.heap.size k m from HP.out.1.congr fun q hq => by
        by_cases e : q = m
        · simp [e, mOf, aOf]
        · simp [e, mOf, aOf])
      replace HB := Lib.hid HP.out.2
      clear ARR HP
      refine (lGiven _).mono ?_
      rintro _ w3 ⟨_, rfl, hb3, rfl⟩
      have hx : Below w3.heap.size w3 (w3.alloc (.cells #[.int .i64 1, .int .i64 1, .int .i64 3, .int .i64 2] 43)) := (Below.refl _ _).alloc (Nat.le_refl _) _
      have RG := Lib.hid (box_range w3 #[.int .i64 1, .int .i64 1, .int .i64 3, .int .i64 2] 43)
      replace EV := Lib.hid ((EV.out.mono hb3).mono hx); replace HB := Lib.hid ((HB.out.le hb3).le hx)
      clear hb3 hx
      by_cases hmo : 0 < more
      · have d3 : decide (0 < more) = true := decide_eq_true hmo
        have L9 := Lib.hid (show 4096 < k by have := HN.out; omega)
        have KB := Lib.hid (show k ≤ 9223372036854775807 by have := HN1.out; omega)
        clear hmo
        go_wp2_with fail
        refine (lOrdersLong _ _ _ _ L9.out KB.out).mono ?_
        rintro _ w4 ⟨_, rfl, hb4, rfl⟩
        replace HB := Lib.hid (HB.out.le hb4); replace RG := Lib.hid (rangeKeep RG.out hb4)
        clear hb4
        have q0 : w4.cell? ⟨w3.heap.size, 0, none⟩ = some (.int .i64 1) := RG.out 0 _ rfl
        have q1 : w4.cell? ⟨w3.heap.size, 1, none⟩ = some (.int .i64 1) := RG.out 1 _ rfl
        have q2 : w4.cell? ⟨w3.heap.size, 2, none⟩ = some (.int .i64 3) := RG.out 2 _ rfl
        have q3 : w4.cell? ⟨w3.heap.size, 3, none⟩ = some (.int .i64 2) := RG.out 3 _ rfl
        go_wp2_with fail
        refine (lChecksLong _ _ _ _ L9.out KB.out).mono ?_
        rintro _ w5 ⟨_, rfl, hb5, rfl⟩
        replace HB := Lib.hid (HB.out.le hb5); replace RG := Lib.hid (rangeKeep RG.out hb5)
        clear hb5 q0 q1 q2 q3
        have q0 : w5.cell? ⟨w3.heap.size, 0, none⟩ = some (.int .i64 1) := RG.out 0 _ rfl
        have q1 : w5.cell? ⟨w3.heap.size, 1, none⟩ = some (.int .i64 1) := RG.out 1 _ rfl
        have q2 : w5.cell? ⟨w3.heap.size, 2, none⟩ = some (.int .i64 3) := RG.out 2 _ rfl
        have q3 : w5.cell? ⟨w3.heap.size, 3, none⟩ = some (.int .i64 2) := RG.out 3 _ rfl
        go_wp2_with fail
        refine (lFindsLong _ _ _ _ L9.out KB.out).mono ?_
        rintro _ w6 ⟨_, rfl, hb6, rfl⟩
        replace HB := Lib.hid (HB.out.le hb6)
        clear hb6 q0 q1 q2 q3
        go_wp2_with fail
        refine (known_true (sat_keep HS.out HB.out)).mono ?_
        rintro _ w9 ⟨_, rfl, hb9, rfl⟩
        have HB9 := Lib.hid (HB.out.le hb9)
        clear hb9
        go_wp2
        go_ret
        exact retB rfl HB9.out
      · have d3 : decide (0 < more) = false := decide_eq_false hmo
        have L9 := Lib.hid (show k ≤ 4096 by have := HN.out; omega)
        clear hmo
        have hx4 : Below (w3.alloc (.cells #[.int .i64 1, .int .i64 1, .int .i64 3, .int .i64 2] 43)).heap.size (w3.alloc (.cells #[.int .i64 1, .int .i64 1, .int .i64 3, .int .i64 2] 43)) ((w3.alloc (.cells #[.int .i64 1, .int .i64 1, .int .i64 3, .int .i64 2] 43)).alloc (.cells #[.int .i64 (m : Int)] 3)) := (Below.refl _ _).alloc (Nat.le_refl _) _
        have S1 := Lib.hid (Sl.oneI (w3.alloc (.cells #[.int .i64 1, .int .i64 1, .int .i64 3, .int .i64 2] 43)) (m : Int) 3)
        replace EV := Lib.hid (EV.out.mono hx4); replace HB := Lib.hid (HB.out.le hx4); replace RG := Lib.hid (rangeKeep RG.out hx4)
        clear hx4
        have hz : (w3.alloc (.cells #[.int .i64 1, .int .i64 1, .int .i64 3, .int .i64 2] 43)).heap.size = w3.heap.size + 1 := by simp
        rw [hz] at S1
        clear hz
        go_wp2_with fail
        refine (lOrders EV.out HM.out L9.out S1.out).mono ?_
        rintro _ w4 ⟨_, rfl, hb4, rfl⟩
        replace HB := Lib.hid (HB.out.le hb4); replace RG := Lib.hid (rangeKeep RG.out hb4); replace EV := Lib.hid (EV.out.mono hb4)
        clear hb4
        have q0 : w4.cell? ⟨w3.heap.size, 0, none⟩ = some (.int .i64 1) := RG.out 0 _ rfl
        have q1 : w4.cell? ⟨w3.heap.size, 1, none⟩ = some (.int .i64 1) := RG.out 1 _ rfl
        have q2 : w4.cell? ⟨w3.heap.size, 2, none⟩ = some (.int .i64 3) := RG.out 2 _ rfl
        have q3 : w4.cell? ⟨w3.heap.size, 3, none⟩ = some (.int .i64 2) := RG.out 3 _ rfl
        go_wp2_with fail
        refine (lChecks (sat_keep HS.out HB.out) EV.out HM.out L9.out).mono ?_
        rintro _ w5 ⟨_, rfl, hb5, rfl⟩
        replace HB := Lib.hid (HB.out.le hb5); replace RG := Lib.hid (rangeKeep RG.out hb5); replace EV := Lib.hid (EV.out.mono hb5)
        clear hb5 q0 q1 q2 q3
        have q0 : w5.cell? ⟨w3.heap.size, 0, none⟩ = some (.int .i64 1) := RG.out 0 _ rfl
        have q1 : w5.cell? ⟨w3.heap.size, 1, none⟩ = some (.int .i64 1) := RG.out 1 _ rfl
        have q2 : w5.cell? ⟨w3.heap.size, 2, none⟩ = some (.int .i64 3) := RG.out 2 _ rfl
        have q3 : w5.cell? ⟨w3.heap.size, 3, none⟩ = some (.int .i64 2) := RG.out 3 _ rfl
        have hx6 : Below w5.heap.size w5 (w5.alloc (.cells #[.int .i64 (m : Int)] 3)) := (Below.refl _ _).alloc (Nat.le_refl _) _
        have S6 := Lib.hid (Sl.oneI w5 (m : Int) 3)
        replace HB := Lib.hid (HB.out.le hx6); replace EV := Lib.hid (EV.out.mono hx6)
        clear hx6
        go_wp2_with fail
        refine (lFinds (sat_keep HS.out HB.out) EV.out HM.out L9.out S6.out).mono ?_
        rintro _ w6 ⟨_, rfl, hb6, rfl⟩
        replace HB := Lib.hid (HB.out.le hb6)
        clear hb6 q0 q1 q2 q3
        go_wp2_with fail
        refine (known_true (sat_keep HS.out HB.out)).mono ?_
        rintro _ w9 ⟨_, rfl, hb9, rfl⟩
        have HB9 := Lib.hid (HB.out.le hb9)
        clear hb9
        go_wp2
        go_ret
        exact retB rfl HB9.out
end Go.Proofs.YtjddelmhbafelaaGreatDoor

/-
  LinearOrders: of any events, over the package variables as the program's text lays them, the law returns true.
-/
namespace Go.Proofs.YtjddelmhbafelaaGreatDoor
open Go.RowKit Ls
theorem lOrdersG {w : World} {A B : Option Addr} {n c m d : Nat} {f : Nat → Ev} {l : List Int} (h : EvT w A n c f) (hn : n ≤ 60) (hl : Sl encI w B m d l) (hr : RefL (Mz (fun i => (f i).made)) n l) :
    Calls Tryz.prog 7 #[.slice A n c, .int .i64 0, .slice B m d] w (Ret w (IsB true)) := by
  have C := Lib.hid (cOrderG (c := c) h hn); have SL := Lib.hid hl; have RL := Lib.hid hr
  clear h hn hl hr
  go_enter Tryz.func7, Tryz.ntmps7
  go_wp2_with fail
  refine C.out.mono ?_
  rintro _ w1 ⟨_, rfl, hb1, B1, m1, d1, l1, rfl, hl1, ho1⟩
  have e : l1 = l := pair_one (mlt_lin _) _ _ ho1.srt RL.out.srt (fun x => by rw [ho1.mem, RL.out.mem])
  subst e
  have HB := Lib.hid hb1
  have I := Lib.hid (rInts _ _ _ _ _ _ _ _ _ hl1 (SL.out.mono hb1))
  clear hb1 hl1 ho1
  go_wp2_with fail
  refine I.out.mono ?_
  rintro _ w2 ⟨_, rfl, hb2, rfl⟩
  have HB2 := Lib.hid (HB.out.le hb2)
  clear hb2
  simp only [decide_true]
  go_wp2
  go_ret
  exact retB rfl HB2.out
theorem lawOrders {w : World} {A : Option Addr} {n c : Nat} {f : Nat → Ev} (h : EvT w A n c f) (hs : SatG w) :
    Calls Tryz.prog 3 #[.slice A n c] w (Ret w (IsB true)) := by
  have S := Lib.hid (lSmall (c := c) h); have H := Lib.hid h; have HS := Lib.hid hs
  clear h hs
  go_enter Tryz.func3, Tryz.ntmps3
  go_wp2_with fail
  refine S.out.mono ?_
  rintro _ w1 ⟨_, rfl, hb1, b, rfl, hb⟩
  have HB := Lib.hid hb1
  cases b
  · clear hb1 hb
    go_wp2_with fail
    refine (known_true (sat_keep HS.out HB.out)).mono ?_
    rintro _ w2 ⟨_, rfl, hb2, rfl⟩
    have HB2 := Lib.hid (HB.out.le hb2)
    clear hb2
    go_wp2
    go_ret
    exact retB rfl HB2.out
  · have HN := Lib.hid (hb rfl)
    have RO := Lib.hid (rOrder (c := c) (H.out.mono hb1).made HN.out)
    clear hb1 hb
    go_wp2_with fail
    refine RO.out.mono ?_
    rintro _ w2 ⟨_, rfl, hb2, l, hr, B, m, d, rfl, hl⟩
    have HB2 := Lib.hid (HB.out.le hb2)
    have LO := Lib.hid (lOrdersG (c := c) (H.out.mono HB2.out) HN.out hl hr)
    clear hb2 hl hr
    go_wp2_with fail
    refine LO.out.mono ?_
    rintro _ w3 ⟨_, rfl, hb3, rfl⟩
    have HB3 := Lib.hid (HB2.out.le hb3)
    clear hb3
    go_wp2_with fail
    refine (known_true (sat_keep HS.out HB3.out)).mono ?_
    rintro _ w4 ⟨_, rfl, hb4, rfl⟩
    have HB4 := Lib.hid (HB3.out.le hb4)
    clear hb4
    go_wp2
    go_ret
    exact retB rfl HB4.out
end Go.Proofs.YtjddelmhbafelaaGreatDoor

/-
  From a law's walk to its row: what was there stays.
-/
namespace Go.Proofs.YtjddelmhbafelaaGreatDoor
open Go.ChangeShapes Go.WideShapes Go.ChangeAt Go.RowKit Go.Deep Go.Joins

section
variable {H : Type} {enc : TypeId × Value → H} {P : Program}
/-- Arguments that were read whole are read alike in a world in which all that was there is as it was. -/
theorem all_stay (hl : laidOutB P = true) {W W' : World} {sp' : Nat → Bool} : ∀ {ts : List TypeId} {vs : List Value} {ds : List (DataW H)} {ps : List MemPlace}, (∀ t ∈ ts, P.readableRec t = true ∧ t < P.types.size) →
    DataW.TrodAll enc P W 0 (fun _ => true) true ts vs ds ps → (∀ p ∈ ps, W.sameAt W' p) → (∀ p ∈ ps, sp' p.block = true) → DataW.TrodAll enc P W' 0 sp' true ts vs ds ps
  | [], _, _, _, _, h, _, _ => by
    obtain ⟨rfl, rfl, rfl⟩ := trodAll_nil h
    rfl
  | t :: ts, _, _, _, hr, h, hs, hp => by
    obtain ⟨v, vs, d, ds, a, b, rfl, rfl, rfl, h1, h2⟩ := trodAll_cons h
    have ht := hr t List.mem_cons_self
    exact ⟨a, b, Go.WideElems.Trod_stays hl ht.1 ht.2 h1 (fun p h => hs p (List.mem_append_left _ h)) (fun p h => hp p (List.mem_append_left _ h)),
      all_stay hl (fun t h => hr t (List.mem_cons_of_mem _ h)) h2 (fun p h => hs p (List.mem_append_right _ h)) (fun p h => hp p (List.mem_append_right _ h)), rfl⟩
/-- The row's last step for a law: it returned true, and nothing that was there has turned. -/
theorem law_post {f : Func} {s : ChangeSpec} {apart fresh handsOn again : Bool} {W W' : World} {args : Array Value} {ds : List (DataW H)} {before : List MemPlace} {tb : TypeId} (hl : laidOutB P = true)
    (hr0 : f.params.toList.all (fun t => P.readableRec t && decide (t < P.types.size)) = true) (hT : f.resultTypes = #[tb]) (hbt : P.underlying tb = some .bool) (hsv : s.vars = []) (hfn : s.fn H ds = { results := [.lit (.bool true)], args := ds })
    (hW : DataW.Whole enc P f.params.toList s.vars apart W args.toList ds [] before) (hb : Below W.heap.size W W') : s.post enc P f apart fresh handsOn again W args (.bool true) W' := by
  have hr : ∀ t ∈ f.params.toList, P.readableRec t = true ∧ t < P.types.size := fun t ht => by
    have := List.all_eq_true.1 hr0 t ht
    rw [Bool.and_eq_true] at this
    exact ⟨this.1, of_decide_eq_true this.2⟩
  obtain ⟨p, q, hA, hV, hps, hz, hn⟩ := id hW
  have hq : q = [] := by rw [hsv] at hV; exact hV
  subst hq
  rw [List.append_nil] at hps
  subst hps
  have hlt : ∀ x ∈ before, x.block < W.heap.size := fun x hx => hW.lt x hx
  have hsame : ∀ x ∈ before, W.sameAt W' x := fun x hx => hb.same (hlt x hx)
  have hres : ∀ (b : Nat) (sp : Nat → Bool) (hd : Bool), DataW.TrodAll enc P W' b sp hd f.resultTypes.toList ((Value.bool true).resultList f.resultTypes.size) [.lit (.bool true)] [] := by
    intro b sp hd
    rw [hT]
    exact trodAll_mk1 (shut_bool hbt _)
  refine ⟨ds, [], before, [], before, [], hW, ?_, ?_, ?_, World.keptBut_mono (fun x hx => ⟨hx, .inr (.inl hx)⟩) (hb.frame (· ∈ before)), fun _ => ⟨?_, ?_⟩⟩
  · rw [List.append_nil, hfn]; exact hres _ _ _
  · rw [List.append_nil, hfn]; exact all_stay hl hr hA hsame fun x hx => by simpa using hlt x hx
  · rw [List.append_nil, hfn, hsv]; rfl
  · exact ok_one hT rfl (okWide_bool_mk hbt _)
  · refine ⟨_, [], before, ⟨before, [], trodAll_append (p := []) (all_stay hl hr hA hsame fun _ _ => rfl) (hres _ _ _), by rw [hsv]; rfl, by simp, fun b off hp => ?_, hn⟩, fun x hx _ => hx⟩
    rw [hb.frozen (hlt _ hp)]
    exact hz b off hp
end

theorem own_none : ownKnob Tryz.prog.godebug = none := by kernel_rfl
theorem laid_out : laidOutB Tryz.prog = true := by kernel_rfl
end Go.Proofs.YtjddelmhbafelaaGreatDoor

/-
  Events that came in: what they read as.
-/
namespace Go.Proofs.YtjddelmhbafelaaGreatDoor
open Go.ChangeShapes Go.WideShapes Go.ChangeAt Go.RowKit Go.Deep Go.Joins

section
variable {H : Type} {enc : TypeId × Value → H} {w : World} {base : Nat} {held : Bool}
theorem cells_int : Tryz.prog.cellsOf 3 = 1 := by kernel_rfl
theorem cells_str : Tryz.prog.cellsOf 9 = 1 := by kernel_rfl
theorem cells_bytes : Tryz.prog.cellsOf 32 = 1 := by kernel_rfl
theorem cells_lines : Tryz.prog.cellsOf 35 = 1 := by kernel_rfl
theorem cells_batches : Tryz.prog.cellsOf 36 = 1 := by kernel_rfl
theorem cells_call : Tryz.prog.cellsOf 34 = 6 := by kernel_rfl
theorem cells_ans : Tryz.prog.cellsOf 38 = 5 := by kernel_rfl
theorem cells_opk : Tryz.prog.cellsOf 31 = 1 := by kernel_rfl
theorem cells_errno : Tryz.prog.cellsOf 26 = 1 := by kernel_rfl
theorem cells_event : Tryz.prog.cellsOf 40 = 15 := by kernel_rfl
theorem add_lit1 (b o j : Nat) : (⟨b, o, none⟩ : Addr).add j = ⟨b, o + j, none⟩ := Addr.add_mid b o j
theorem list_6 {α : Type} {cs : List α} (h : cs.length = 6) : ∃ a b c d e f, cs = [a, b, c, d, e, f] := by
  match cs, h with
  | [a, b, c, d, e, f], _ => exact ⟨a, b, c, d, e, f, rfl⟩
theorem list_5 {α : Type} {cs : List α} (h : cs.length = 5) : ∃ a b c d e, cs = [a, b, c, d, e] := by
  match cs, h with
  | [a, b, c, d, e], _ => exact ⟨a, b, c, d, e, rfl⟩
theorem list_15 {α : Type} {cs : List α} (h : cs.length = 15) : ∃ a b c d e f g i j k l m n o p, cs = [a, b, c, d, e, f, g, i, j, k, l, m, n, o, p] := by
  match cs, h with
  | [a, b, c, d, e, f, g, i, j, k, l, m, n, o, p], _ => exact ⟨a, b, c, d, e, f, g, i, j, k, l, m, n, o, p, rfl⟩
theorem rd_int {t : TypeId} (ht : Tryz.prog.underlying t = some (.int .i64)) {fuel : Nat} {v : Value} {x : DataW H × List MemPlace} (h : DataW.trod enc Tryz.prog w base (fun _ => true) held fuel t [v] = some x) : ∃ a, v = .int .i64 a := by
  obtain ⟨a, e, _⟩ := DataW.trod_int ht h
  simp at e; exact ⟨a, e⟩
theorem rd_str {fuel : Nat} {v : Value} {x : DataW H × List MemPlace} (h : DataW.trod enc Tryz.prog w base (fun _ => true) held fuel 9 [v] = some x) : ∃ s, v = .string s := by
  obtain ⟨s, e, _⟩ := DataW.trod_string Tryz.underlying9 h
  simp at e; exact ⟨s, e⟩
theorem rd_slice {t et : TypeId} (ht : Tryz.prog.underlying t = some (.slice et)) {fuel : Nat} {v : Value} {x : DataW H × List MemPlace} (h : DataW.trod enc Tryz.prog w base (fun _ => true) held fuel t [v] = some x) : ∃ s : SlV, v = .slice s.1 s.2.1 s.2.2 ∧ s.2.1 ≤ 9223372036854775807 := by
  rcases open_slice ht h with ⟨h1, _⟩ | ⟨a, len, cap, m, n, D, Pl, h1, _, hl, hm, _⟩
  · cases h1; exact ⟨(none, 0, 0), rfl, Nat.zero_le _⟩
  · cases h1; exact ⟨(some a, len, cap), rfl, by show len ≤ _; unfold maxLen at hm; omega⟩
theorem rd_batches {fuel : Nat} {v : Value} {x : DataW H × List MemPlace} (h : DataW.trod enc Tryz.prog w base (fun _ => true) held fuel 36 [v] = some x) : ∃ s : SlV, v = .slice s.1 s.2.1 s.2.2 ∧ BatchAt w s := by
  rcases open_slice Tryz.underlying36 h with ⟨h1, _⟩ | ⟨a, len, cap, m, n, D, Pl, h1, hb, hl, hm, hmm, _, hx⟩
  · cases h1
    exact ⟨(none, 0, 0), rfl, Nat.zero_le _, fun k hk => absurd hk (Nat.not_lt_zero _)⟩
  · cases h1
    rw [if_pos rfl] at hmm
    rw [cells_bytes] at hx
    refine ⟨(some a, len, cap), rfl, by unfold maxLen at hm; show len ≤ _; omega, fun k hk => ?_⟩
    have hk : k < len := hk
    have at_ : ∀ i, i < len → ∃ s : SlV, w.cell? (a.add i) = some (.slice s.1 s.2.1 s.2.2) ∧ s.2.1 ≤ 9223372036854775807 := by
      intro i hi
      obtain ⟨cs', h1, h2⟩ := hx i (by omega)
      obtain ⟨_, hlen, hcell⟩ := World.cells?_some h1
      match cs', hlen with
      | [u], _ =>
        obtain ⟨s, rfl, hs⟩ := rd_slice Tryz.underlying32 h2
        refine ⟨s, ?_, hs⟩
        have := hcell 0 (by omega)
        rw [add_add] at this
        simpa using this
    obtain ⟨b, o, sp⟩ := a
    have hsp : sp = none := by
      obtain ⟨s, h9, _⟩ := at_ 0 (by omega)
      have h9 := World.cell?_spot h9; simpa [Addr.add] using h9
    subst hsp
    obtain ⟨s, hc, hs⟩ := at_ k hk
    rw [add_lit1] at hc
    exact ⟨b, o, s.1, s.2.1, s.2.2, rfl, hs, hc⟩
set_option maxRecDepth 100000 in
theorem open_event {fuel : Nat} {cs : List Value} {x : DataW H × List MemPlace} (h : DataW.trod enc Tryz.prog w base (fun _ => true) held fuel 40 cs = some x) : ∃ e : Ev, cs = evL e ∧ BatchAt w e.b ∧ e.d.2.1 ≤ 9223372036854775807 ∧ e.l.2.1 ≤ 9223372036854775807 := by
  obtain ⟨xs, k, _, _, hl, hxl, hf⟩ := DataW.trod_struct Tryz.underlying40 h
  rw [cells_event] at hl
  obtain ⟨v0, v1, v2, v3, v4, v5, v6, v7, v8, v9, v10, v11, v12, v13, v14, rfl⟩ := list_15 hl
  match xs, hxl with
  | [y0, y1, y2, y3, y4, y5], _ =>
    have g0 := hf 0 _ rfl
    have g1 := hf 1 _ rfl
    have g2 := hf 2 _ rfl
    have g3 := hf 3 _ rfl
    have g4 := hf 4 _ rfl
    have g5 := hf 5 _ rfl
    simp [cells_int, cells_call, cells_ans] at g0 g1 g2 g3 g4 g5
    obtain ⟨t, rfl⟩ := rd_int Tryz.underlying3 g0
    obtain ⟨xa, _, _, _, _, hxa, fa⟩ := DataW.trod_struct Tryz.underlying34 g1
    obtain ⟨xb, _, _, _, _, hxb, fb⟩ := DataW.trod_struct Tryz.underlying38 g2
    obtain ⟨asked, rfl⟩ := rd_int Tryz.underlying3 g3
    obtain ⟨made, rfl⟩ := rd_int Tryz.underlying3 g4
    obtain ⟨ans, rfl⟩ := rd_int Tryz.underlying3 g5
    match xa, hxa, xb, hxb with
    | [a0, a1, a2, a3, a4, a5], _, [b0, b1, b2, b3, b4], _ =>
      have p0 := fa 0 _ rfl
      have p1 := fa 1 _ rfl
      have p2 := fa 2 _ rfl
      have p3 := fa 3 _ rfl
      have p4 := fa 4 _ rfl
      have p5 := fa 5 _ rfl
      have q0 := fb 0 _ rfl
      have q1 := fb 1 _ rfl
      have q2 := fb 2 _ rfl
      have q3 := fb 3 _ rfl
      have q4 := fb 4 _ rfl
      simp [cells_int, cells_str, cells_bytes, cells_opk] at p0 p1 p2 p3 p4 p5
      simp [cells_int, cells_lines, cells_batches, cells_opk, cells_errno] at q0 q1 q2 q3 q4
      obtain ⟨o, rfl⟩ := rd_int Tryz.underlying31 p0
      obtain ⟨k1, rfl⟩ := rd_str p1
      obtain ⟨k2, rfl⟩ := rd_str p2
      obtain ⟨k3, rfl⟩ := rd_str p3
      obtain ⟨qq, rfl⟩ := rd_int Tryz.underlying3 p4
      obtain ⟨d, rfl, hd⟩ := rd_slice Tryz.underlying32 p5
      obtain ⟨ao, rfl⟩ := rd_int Tryz.underlying31 q0
      obtain ⟨ae, rfl⟩ := rd_int Tryz.underlying26 q1
      obtain ⟨ac, rfl⟩ := rd_int Tryz.underlying3 q2
      obtain ⟨l, rfl, hl2⟩ := rd_slice Tryz.underlying35 q3
      obtain ⟨b, rfl, hb⟩ := rd_batches q4
      exact ⟨⟨t, o, k1, k2, k3, qq, d, ao, ae, ac, l, b, asked, made, ans⟩, rfl, hb, hd, hl2⟩
theorem read_evs {fuel : Nat} {v : Value} {x : DataW H × List MemPlace} (h : DataW.trod enc Tryz.prog w base (fun _ => true) held fuel 22 [v] = some x) : ∃ A n c f, v = .slice A n c ∧ EvT w A n c f := by
  rcases open_slice Tryz.underlying22 h with ⟨h1, _⟩ | ⟨a, len, cap, m, n, D, Pl, h1, hb, hl, hm, hmm, _, hx⟩
  · cases h1
    exact ⟨none, 0, 0, fun _ => ⟨0, 0, ⟨#[]⟩, ⟨#[]⟩, ⟨#[]⟩, 0, (none, 0, 0), 0, 0, 0, (none, 0, 0), (none, 0, 0), 0, 0, 0⟩, rfl, Nat.le_refl _, Nat.zero_le _, fun _ => rfl, fun i hi => absurd hi (Nat.not_lt_zero _), fun i hi => absurd hi (Nat.not_lt_zero _)⟩
  · cases h1
    rw [if_pos rfl] at hmm
    rw [cells_event] at hx
    have at_ : ∀ i, i < len → ∃ e : Ev, (∀ j u, (evL e)[j]? = some u → w.cell? (a.add (i * 15 + j)) = some u) ∧ BatchAt w e.b ∧ e.d.2.1 ≤ 9223372036854775807 ∧ e.l.2.1 ≤ 9223372036854775807 := by
      intro i hi
      obtain ⟨cs', h1, h2⟩ := hx i (by omega)
      obtain ⟨_, hlen, hcell⟩ := World.cells?_some h1
      obtain ⟨e, hs, hB⟩ := open_event h2
      refine ⟨e, fun j u hj => ?_, hB⟩
      have hj6 : j < 15 := (List.getElem?_eq_some_iff.1 hj).1
      have := hcell j hj6
      rw [add_add] at this
      rw [this, hs]; exact hj
    haveI : Inhabited Ev := ⟨⟨0, 0, ⟨#[]⟩, ⟨#[]⟩, ⟨#[]⟩, 0, (none, 0, 0), 0, 0, 0, (none, 0, 0), (none, 0, 0), 0, 0, 0⟩⟩
    obtain ⟨q, hq⟩ := choose_lt at_
    obtain ⟨b, o, s⟩ := a
    refine ⟨some ⟨b, o, s⟩, len, cap, q, rfl, hl, hm, (fun e => nomatch e), fun i hi => ?_, fun i hi => (hq i hi).2⟩
    obtain ⟨hc, _⟩ := hq i hi
    have hs : s = none := by have h9 := World.cell?_spot ((hq 0 (by omega)).1 0 _ rfl); simpa [Addr.add] using h9
    subst hs
    have cell : ∀ j u, (evL (q i))[j]? = some u → w.cell? ⟨b, o + i * 15 + j, none⟩ = some u := fun j u hj => by
      have := hc j u hj
      rw [add_lit1] at this
      rw [Nat.add_assoc]; exact this
    exact ⟨b, o, rfl, World.block_lt_of_cell? w _ (cell 0 _ rfl), cell⟩
end
end Go.Proofs.YtjddelmhbafelaaGreatDoor
