/-
  The comparisons that the sorts are handed: their world is the caller's, grown.
-/
import Derived.Test.YtjbakmmmgejhlaaWC
import Derived.Shelf.SlSortCmp.WholeK
import Derived.Test.YtjbakmmmgejhlaaWD
import Derived.Test.YtjbakmmmgejhlaaWF
import Derived.Test.YtjbakmmmgejhlaaWE
namespace Go.Proofs.Ytjbakmmmgejhlaa
open Go.RowKit Go.Sort

/-- Draws and new blocks, nothing else. -/
def Grew (w w' : World) : Prop := ∃ (q : Nat) (os : Array Obj), w' = grow (w.drewN q) os
theorem Grew.refl (w : World) : Grew w w := ⟨0, #[], by simp [World.drewN]⟩
theorem Grew.alloc {w w' : World} (h : Grew w w') (o : Obj) : Grew w (w'.alloc o) := by
  obtain ⟨q, os, rfl⟩ := h
  exact ⟨q, os ++ #[o], by rw [alloc_eq_grow, grow_grow]⟩
theorem Grew.drew {w w' : World} (h : Grew w w') : Grew w w'.drew := by
  obtain ⟨q, os, rfl⟩ := h
  exact ⟨q + 1, os, rfl⟩
theorem Grew.drewN {w w' : World} (h : Grew w w') (n : Nat) : Grew w (w'.drewN n) := by
  obtain ⟨q, os, rfl⟩ := h
  refine ⟨q + n, os, ?_⟩
  simp [World.drewN, grow, Nat.add_assoc]

set_option maxHeartbeats 1000000 in
theorem made1 (a b x y : Int) (w : World) : Calls Try.prog 69 #[.agg #[.int .i64 a, .int .i64 b], .agg #[.int .i64 x, .int .i64 y]] w fun e w' => e = .returned (.int .i64 (cmpI a x)) ∧ Grew w w' := by
  have c1 := fun w => ccompare a x w
  generalize cmpI a x = r at *
  go_enter Try.func69, Try.ntmps69
  go_wp2_with (go_at_call 66; ((with_reducible refine (c1 _).mono ?_); rintro e w' ⟨rfl, rfl⟩))
  go_ret
  exact ⟨rfl, ((Grew.refl w).alloc _).alloc _⟩

set_option maxHeartbeats 1000000 in
theorem dcompareG (a b x y : Int) (w : World) : Calls Try.prog 50 #[.agg #[.int .i64 a, .int .i64 b], .agg #[.int .i64 x, .int .i64 y]] w fun e w' => e = .returned (.int .i64 (cmpD (a, b) (x, y))) ∧ Grew w w' := by
  have e := orI_cmp (a, b) (x, y)
  generalize cmpD (a, b) (x, y) = r at *
  generalize hp : cmpI (a, b).2 (x, y).2 = p at *
  generalize hq : cmpI (a, b).1 (x, y).1 = q at *
  have E := Lib.hid e; clear e
  have c1 := fun w => ccompare b y w
  have c2 := fun w => ccompare a x w
  simp only at hp hq
  rw [hp] at c1; rw [hq] at c2
  clear hp hq
  go_enter Try.func50, Try.ntmps50
  go_wp2_with fail
  go_region_held3 (fun w' => w'.cell? ⟨w.heap.size, 0, none⟩ = some (.int .i64 a) ∧ w'.cell? ⟨w.heap.size, 1, none⟩ = some (.int .i64 b) ∧ w'.cell? ⟨w.heap.size + 1, 0, none⟩ = some (.int .i64 x) ∧ w'.cell? ⟨w.heap.size + 1, 1, none⟩ = some (.int .i64 y)) (simp [go_sem, World.cell?_alloc_past])
    (first
      | (go_at_call 66; ((with_reducible refine (c1 _).mono ?_); rintro e w' ⟨rfl, rfl⟩))
      | (go_at_call 66; ((with_reducible refine (c2 _).mono ?_); rintro e w' ⟨rfl, rfl⟩))
      | (go_at_call 65; ((with_reducible refine (cor2 p q _ _ (by simp [go_sem]) (by simp [go_sem])).mono ?_); rintro e w' ⟨rfl, rfl⟩)))
  go_wp2
  go_ret
  rw [E.out]
  exact ⟨rfl, ((((Grew.refl w).alloc _).alloc _).alloc _).drew⟩
end Go.Proofs.Ytjbakmmmgejhlaa

/-
  slices.SortFunc on a row of the call's own.
-/
namespace Go.Proofs.Ytjbakmmmgejhlaa
open Go.RowKit Go.Sort

def encD (d : Dot) : List Value := [.int .i64 d.1, .int .i64 d.2]
theorem flat_dcells (l : List Dot) : flatK encD 2 l.toArray = (dcells l).toArray := by
  apply Array.ext
  · simp [dcells_length]
  · intro j h1 h2
    have hj : j < l.length * 2 := by simpa using h1
    have hi : j / 2 < l.length := by omega
    obtain ⟨g1, g2⟩ := dcells_get l (j / 2) l[j / 2] (List.getElem?_eq_getElem hi)
    have e : (flatK encD 2 l.toArray)[j] = (flatK encD 2 l.toArray)[j]! := (getElem!_pos _ j h1).symm
    rw [e, get_flatK _ _ _ _ (by simpa using hj)]
    have e2 : l.toArray[j / 2]! = l[j / 2] := by rw [getElem!_pos _ _ (by simpa using hi)]; simp
    rw [e2]
    have e3 : (dcells l).toArray[j] = (dcells l)[j]'(by simpa [dcells_length] using hj) := by simp
    rw [e3]
    rcases Nat.mod_two_eq_zero_or_one j with hm | hm
    · have ej : j / 2 * 2 = j := by omega
      rw [ej] at g1
      rw [hm]
      have := (List.getElem?_eq_some_iff.1 g1).2
      rw [this]; rfl
    · have ej : j / 2 * 2 + 1 = j := by omega
      rw [ej] at g2
      rw [hm]
      have := (List.getElem?_eq_some_iff.1 g2).2
      rw [this]; rfl
section
variable {w : World} {B g cap : Nat} {l l' : List Dot}
theorem Row.holds (h : Row w B (.slice (some ⟨g, 0, none⟩) l.length cap) l) : HoldsK encD 2 w g 0 l.toArray ∧ g < w.heap.size := by
  rcases h.2 with ⟨h2, _⟩ | ⟨g', cap', cur, hv, hg, hh, hn, hm, hs, ht⟩
  · cases h2
  · cases hv
    refine ⟨fun j hj => ?_, (Array.getElem?_eq_some_iff.1 hh).1⟩
    rw [flat_dcells] at hj ⊢
    have hj' : j < (dcells l).length := by simpa using hj
    rw [cell_of_row w g _ cur _ (0, 0) hh, frozen_of_row w g _ cur _ hh]
    obtain ⟨u, e2⟩ : ∃ u, (dcells l)[j]? = some u := ⟨_, List.getElem?_eq_getElem hj'⟩
    have e : (dcells l).toArray[j]! = u := by
      rw [getElem!_pos (dcells l).toArray j hj]
      have := (List.getElem?_eq_some_iff.1 e2).2
      simpa using this
    rw [e]
    rw [← ht, List.getElem?_take] at e2
    split at e2
    · exact ⟨by simpa using e2, rfl⟩
    · cases e2
theorem Row.resorted (h : Row w B (.slice (some ⟨g, 0, none⟩) l.length cap) l) (hl : l'.length = l.length) (n : Nat) (os : Array Obj) : Row (sortWorldK encD 2 w g 0 n l'.toArray os) B (.slice (some ⟨g, 0, none⟩) l.length cap) l' ∧ Below B w (sortWorldK encD 2 w g 0 n l'.toArray os) := by
  rcases h.2 with ⟨h2, _⟩ | ⟨g', cap', cur, hv, hg, hh, hn, hm, hs, ht⟩
  · cases h2
  · cases hv
    have hgz : g < w.heap.size := (Array.getElem?_eq_some_iff.1 hh).1
    have hblock : ∀ k, k < w.heap.size → (sortWorldK encD 2 w g 0 n l'.toArray os).heap[k]? = (w.heap.modify g (onCells (putCells id 0 (flatK encD 2 l'.toArray))))[k]? := by
      intro k hk
      show ((w.heap.modify g (onCells (putCells id 0 (flatK encD 2 l'.toArray)))) ++ os)[k]? = _
      rw [Array.getElem?_append, if_pos (by simpa using hk)]
    refine ⟨⟨by rw [dcells_length], .inr ⟨g, cap, putCells id 0 (flatK encD 2 l'.toArray) cur, by rw [hl], hg, ?_, by rw [hl]; exact hn, hm, ?_, ?_⟩⟩, ⟨rfl, rfl, rfl, ?_, fun k hk => ?_⟩⟩
    · rw [hblock g hgz, Array.getElem?_modify, if_pos rfl, hh]; rfl
    · simpa [putCells] using hs
    · rw [flat_dcells]
      apply List.ext_getElem?
      intro j
      rw [List.getElem?_take]
      by_cases hj : j < l'.length * 2
      · rw [if_pos hj]
        have hjc : j < cur.size := by rw [hs]; have := Nat.mul_le_mul_right 2 hn; omega
        have hjd : j < (dcells l').length := by rw [dcells_length]; exact hj
        simp [putCells, hjc, hjd]
      · rw [if_neg hj, List.getElem?_eq_none (by rw [dcells_length]; omega)]
    · show _ ≤ ((w.heap.modify g _) ++ os).size
      simp
    · rw [hblock k (by omega), Array.getElem?_modify, if_neg (by omega)]
end
end Go.Proofs.Ytjbakmmmgejhlaa

/-
  slices.SortFunc of dots, on a row of the call's own.
-/
namespace Go.Proofs.Ytjbakmmmgejhlaa
open Go.RowKit

theorem lt_dot (x y : Dot) : ltOf cmpD x y = lessD x y := by
  unfold ltOf
  cases h : lessD x y with
  | true => rw [decide_eq_true_iff]; exact cmpD_lt.2 h
  | false => rw [decide_eq_false_iff_not]; intro h2; rw [cmpD_lt, h] at h2; cases h2
theorem swoDot : Go.Sort.SWO (ltOf cmpD) where
  irrefl x := by rw [lt_dot]; cases h : lessD x x with | false => rfl | true => rw [lessD_iff] at h; omega
  trans x y z h1 h2 := by rw [lt_dot, lessD_iff] at *; omega
  ntrans x y z h1 h2 := by
    rw [lt_dot] at *
    cases h : lessD x z with
    | false => rfl
    | true =>
      have n1 : ¬ lessD x y = true := by rw [h1]; simp
      have n2 : ¬ lessD y z = true := by rw [h2]; simp
      rw [lessD_iff] at h n1 n2; omega
theorem laysD (blk off size : Nat) (w : World) : CmpLays Try.prog 50 #[] encD 2 cmpD blk off size w := fun _ _ _ _ x y => dcompareG x.1 x.2 y.1 y.2 _

def keyV (a b : Dot) : Int := cmpI a.1 b.1
theorem lt_key (x y : Dot) : ltOf keyV x y = decide (x.1 < y.1) := by
  unfold ltOf keyV cmpI
  by_cases h1 : x.1 < y.1
  · simp [h1]
  · by_cases h2 : y.1 < x.1 <;> simp [h1, h2]
theorem swoKey : Go.Sort.SWO (ltOf keyV) where
  irrefl x := by rw [lt_key]; simp
  trans x y z h1 h2 := by rw [lt_key] at *; simp at *; omega
  ntrans x y z h1 h2 := by rw [lt_key] at *; simp at *; omega
theorem laysV (blk off size : Nat) (w : World) : CmpLays Try.prog 69 #[] encD 2 keyV blk off size w := fun _ _ _ _ x y => made1 x.1 x.2 y.1 y.2 _
theorem encD_len (x : Dot) : (encD x).length = 2 := rfl
theorem encD_one (x : Dot) : ∀ v ∈ encD x, v.oneCell' = true := by
  intro v hv; simp [encD] at hv; rcases hv with rfl | rfl <;> rfl

/-- A sort of a list. -/
def SortOf (lt : Dot → Dot → Bool) (l l' : List Dot) : Prop := l'.Perm l ∧ l'.Pairwise (fun a b => lt b a = false)
theorem SortOf.of {lt : Dot → Dot → Bool} {l : List Dot} {d : Array Dot} (h1 : Go.Sort.PermIn 0 l.toArray.size l.toArray d) (h2 : Go.Sort.SortedIn lt 0 l.toArray.size d) : SortOf lt l d.toList := by
  have hs : d.size = l.length := by simpa using h1.1
  refine ⟨?_, ?_⟩
  · have := h1.2.2
    rw [Array.extract_eq_self_of_le (by simp [hs]), Array.extract_eq_self_of_le (Nat.le_refl _)] at this
    simpa using this
  · rw [List.pairwise_iff_getElem]
    intro i j hi hj hij
    have := h2 i j (Nat.zero_le _) hij (by simp at hj ⊢; omega)
    rw [getElem!_pos d j (by simpa using hj), getElem!_pos d i (by simpa using hi)] at this
    simpa using this

def SortPost (B : Nat) (lt : Dot → Dot → Bool) (v : Value) (l : List Dot) (w : World) (e : Ending) (w' : World) : Prop :=
  e = .returned (.tuple #[]) ∧ Go.RowKit.Below B w w' ∧ ∃ l', SortOf lt l l' ∧ Row w' B v l'
theorem enterDCmp : ∀ args w, (callFunc 50 args).run Try.prog w = .ok (.enter 50 args) w := enters_of Try.func50 (by kernel_rfl) rfl
theorem enterMade1 : ∀ args w, (callFunc 69 args).run Try.prog w = .ok (.enter 69 args) w := enters_of Try.func69 (by kernel_rfl) rfl

set_option maxHeartbeats 1000000 in
theorem dsort_row (B g cap : Nat) (l : List Dot) (w : World) (h : Row w B (.slice (some ⟨g, 0, none⟩) l.length cap) l) (hs : Small l.length) :
    Calls Try.prog 77 #[.slice (some ⟨g, 0, none⟩) l.length cap, .func (.func 50) #[] #[]] w (SortPost B lessD (.slice (some ⟨g, 0, none⟩) l.length cap) l w) := by
  obtain ⟨hh, hg⟩ := Row.holds h
  have hcon := AnyQ.slices_SortFunc Try.sortD 2 Try.isAgg27 Try.sizeOf27 encD encD_len encD_one cmpD swoDot 50 #[] g 0 cap l.toArray w enterDCmp (laysD g 0 _ w) hh hg (by have := hs.out; simp; omega)
  change Calls Try.prog 77 _ _ _ at hcon
  have e : l.toArray.size = l.length := by simp
  rw [e] at hcon
  refine hcon.mono ?_
  rintro e w' ⟨rfl, d', n, os, h1, h2, rfl⟩
  have hl : d'.toList.length = l.length := by simpa using h1.1
  have hr := Row.resorted h hl n os
  refine ⟨rfl, by simpa using hr.2, d'.toList, ?_, by simpa using hr.1⟩
  have hlt : ltOf cmpD = lessD := by funext x y; exact lt_dot x y
  rw [hlt] at h2
  exact SortOf.of (by simpa using h1) (by simpa using h2)
end Go.Proofs.Ytjbakmmmgejhlaa

/-
  The sorts at nil; the sort of vectors.
-/
namespace Go.Proofs.Ytjbakmmmgejhlaa
open Go.RowKit

set_option maxRecDepth 100000 in
theorem insertion_nil (f : Value) (w : World) : Calls Try.prog 79 #[.slice none 0 0, .int .i64 0, .int .i64 0, f] w fun e w' => e = .returned (.tuple #[]) ∧ w' = w := by
  go_enter Try.func79, Try.ntmps79
  go_wp2
  go_rounds 1
  go_end0
  exact ⟨rfl, rfl⟩
set_option maxRecDepth 100000 in
theorem pdq_nil (limit : Int) (f : Value) (w : World) : Calls Try.prog 75 #[.slice none 0 0, .int .i64 0, .int .i64 0, .int .i64 limit, f] w fun e w' => e = .returned (.tuple #[]) ∧ w' = w := by
  have F := Lib.hid (insertion_nil f w)
  go_enter Try.func75, Try.ntmps75
  go_wp2
  refine wp_loop_rounds 1 ?_
  rw [rounds_succ]
  go_wp2_with (go_at_call 79; ((with_reducible refine F.out.mono ?_); rintro e w' ⟨rfl, rfl⟩))
  refine bodyPost_ret (results_none rfl _ _ _) rfl ?_
  exact ⟨rfl, rfl⟩
theorem bitsLen (n : Nat) (w : World) (h : n ≤ 1000000) : Calls Try.prog 76 #[.int .u64 (n : Int)] w fun e w' => e = .returned (.int .i64 (Lib.bitLen n : Nat)) ∧ w' = w := by
  have h := Any.bits_Len (SlLaysF0.n15.bits { Try.sortD with }) (n : Int) w (by omega) (by omega)
  rwa [Int.toNat_natCast] at h

set_option maxRecDepth 100000 in
set_option maxHeartbeats 1000000 in
theorem dsort (B : Nat) (v : Value) (l : List Dot) (w : World) (h : Row w B v l) (hs : Small l.length) :
    Calls Try.prog 77 #[v, .func (.func 50) #[] #[]] w (SortPost B lessD v l w) := by
  have hh := h
  rcases h.2 with ⟨rfl, h0⟩ | ⟨g, cap, cur, rfl, _⟩
  · have hl : l = [] := List.eq_nil_of_length_eq_zero h0
    subst hl
    have F1 := Lib.hid (show Calls Try.prog 76 #[.int .u64 0] w (fun e w' => e = .returned (.int .i64 (Lib.bitLen 0 : Nat)) ∧ w' = w) from bitsLen 0 w (by omega))
    have F2 := Lib.hid (fun lim => pdq_nil lim (.func (.func 50) #[] #[]) w)
    have HH := Lib.hid hh; clear hh h h0 hs
    go_enter Try.func77, Try.ntmps77
    go_wp2_with (first
      | (go_at_call 76; ((with_reducible refine F1.out.mono ?_); rintro e w' ⟨rfl, rfl⟩))
      | (go_at_call 75; ((with_reducible refine (F2.out _).mono ?_); rintro e w' ⟨rfl, rfl⟩)))
    go_end0
    exact ⟨rfl, Below.refl _ _, [], ⟨List.Perm.refl _, List.Pairwise.nil⟩, HH.out⟩
  · exact dsort_row B g cap l w hh hs
set_option maxRecDepth 100000 in
set_option maxHeartbeats 1000000 in
theorem vsort (B : Nat) (v : Value) (l : List Dot) (w : World) (h : Row w B v l) (hs : Small l.length) :
    Calls Try.prog 68 #[v, .func (.func 69) #[] #[]] w (SortPost B (ltOf keyV) v l w) := by
  have hh := h
  rcases h.2 with ⟨rfl, h0⟩ | ⟨g, cap, cur, rfl, _⟩
  · have hl : l = [] := List.eq_nil_of_length_eq_zero h0
    subst hl
    have F1 := Lib.hid (show Calls Try.prog 76 #[.int .u64 0] w (fun e w' => e = .returned (.int .i64 (Lib.bitLen 0 : Nat)) ∧ w' = w) from bitsLen 0 w (by omega))
    have F2 := Lib.hid (fun lim => pdq_nil lim (.func (.func 69) #[] #[]) w)
    have HH := Lib.hid hh; clear hh h h0 hs
    go_enter Try.func68, Try.ntmps68
    go_wp2_with (first
      | (go_at_call 76; ((with_reducible refine F1.out.mono ?_); rintro e w' ⟨rfl, rfl⟩))
      | (go_at_call 75; ((with_reducible refine (F2.out _).mono ?_); rintro e w' ⟨rfl, rfl⟩)))
    go_end0
    exact ⟨rfl, Below.refl _ _, [], ⟨List.Perm.refl _, List.Pairwise.nil⟩, HH.out⟩
  · obtain ⟨hH, hg⟩ := Row.holds hh
    have hsz : l.length < 4611686018427387904 := by have := hs.out; omega
    have hlim : Lib.bitLen l.length < 4611686018427387904 := Nat.lt_of_le_of_lt (Lib.bitLen_le l.length 62 (by omega) (by omega)) (by omega)
    have hp := AnyQ.pdqsortCmpFunc_all (P := Try.prog) { Try.sortD with } 2 Try.isAgg27 Try.sizeOf27 encD keyV 69 #[] swoKey g 0 cap l.toArray w enterMade1 (laysV g 0 _ w) ⟨encD_len, encD_one, hH, hg⟩ (l.toArray.size + 1) 0 l.toArray.size (Lib.bitLen l.length) l.toArray w (by omega) rfl (SWK.start hH) (Nat.zero_le _) (Nat.le_refl _) (by simpa using hsz) hlim (Or.inl rfl)
    change Calls Try.prog 75 _ _ _ at hp
    have e : l.toArray.size = l.length := by simp
    rw [e] at hp
    replace hp : Calls Try.prog 75 #[.slice (some ⟨g, 0, none⟩) l.length cap, .int .i64 0, .int .i64 (l.length : Int), .int .i64 (Lib.bitLen l.length : Nat), .func (.func 69) #[] #[]] w _ := hp
    have hl := bitsLen l.length w hs.out
    have wr : IntKind.u64.wrap (l.length : Int) = l.length := by simp [IntKind.wrap, IntKind.bits, IntKind.signed]; omega
    have srt := Go.Sort.pdq_sorts (ltOf keyV) swoKey l.toArray 0 l.toArray.size (Lib.bitLen l.toArray.size) true true (Nat.zero_le _) (Nat.le_refl _) (Or.inl rfl)
    rw [e] at srt
    generalize Go.Sort.pdq (ltOf keyV) l.toArray 0 l.length (Lib.bitLen l.length) true true = d at hp srt
    have HP := Lib.hid hp; have HL := Lib.hid hl; have HH := Lib.hid hh; have SRT := Lib.hid srt; have HG := Lib.hid hg
    clear hp hl hh h srt hH hs hlim e hg
    go_enter Try.func68, Try.ntmps68
    go_wp2_with (first
      | (go_at_call 76; ((with_reducible refine HL.out.mono ?_); rintro e w' ⟨rfl, rfl⟩))
      | (go_at_call 75; ((with_reducible refine HP.out.mono ?_); rintro e w' ⟨rfl, n, os, rfl⟩)))
    go_end0
    have hl : d.toList.length = l.length := by simpa using SRT.out.1.1
    have hr := Row.resorted HH.out hl n os
    refine ⟨rfl, by simpa using hr.2, d.toList, SortOf.of (by simpa using SRT.out.1) (by simpa using SRT.out.2), by simpa using hr.1⟩
end Go.Proofs.Ytjbakmmmgejhlaa

/-
  slices.Compact: what it makes of a list; stores into a row of the call's own.
-/
namespace Go.Proofs.Ytjbakmmmgejhlaa
open Go.RowKit

/-- Of each run of equals the first. -/
def compG (acc : List Dot) (d : Dot) : List Dot := if acc.getLast? = some d then acc else acc ++ [d]
def compL (l : List Dot) : List Dot := l.foldl compG []
theorem compL_snoc (l : List Dot) (d : Dot) : compL (l ++ [d]) = compG (compL l) d := by unfold compL; rw [List.foldl_append]; rfl
theorem compG_last (acc : List Dot) (d : Dot) : (compG acc d).getLast? = some d := by
  unfold compG; split
  · assumption
  · simp
theorem take_snoc {l : List Dot} {j : Nat} {d : Dot} (h : l[j]? = some d) : l.take (j + 1) = l.take j ++ [d] := by
  rw [List.take_add_one, h]; rfl
/-- One more: equal to the one before, or not. -/
theorem compL_step {l : List Dot} {j : Nat} {a b : Dot} (h1 : l[j]? = some a) (h2 : l[j + 1]? = some b) : compL (l.take (j + 1 + 1)) = if b = a then compL (l.take (j + 1)) else compL (l.take (j + 1)) ++ [b] := by
  have e : (compL (l.take (j + 1))).getLast? = some a := by rw [take_snoc h1, compL_snoc, compG_last]
  rw [take_snoc h2, compL_snoc, compG, e]
  by_cases h : b = a
  · subst h; simp
  · have h' : ¬ a = b := fun e => h e.symm
    simp [h, h']
theorem compL_one {l : List Dot} (h : l.length ≤ 1) : compL l = l := by
  match l, h with
  | [], _ => rfl
  | [a], _ => rfl

section
variable {w : World} {B g cap n : Nat} {l : List Dot}
theorem dcells_set : ∀ (l : List Dot) (k : Nat) (p q : Int), k < l.length → dcells (l.set k (p, q)) = ((dcells l).set (k * 2) (.int .i64 p)).set (k * 2 + 1) (.int .i64 q)
  | [], k, p, q, h => by simp at h
  | a :: t, 0, p, q, h => rfl
  | a :: t, k + 1, p, q, h => by
    have := dcells_set t k p q (by simpa using h)
    rw [List.set_cons_succ, dcells_cons, this, dcells_cons, show (k + 1) * 2 = k * 2 + 1 + 1 by omega]
    rfl
theorem Row.put (h : Row w B (.slice (some ⟨g, 0, none⟩) n cap) l) {k : Nat} (hk : k < l.length) (p q : Int) :
    Row ((w.setCell ⟨g, k * 2, none⟩ (.int .i64 p)).setCell ⟨g, k * 2 + 1, none⟩ (.int .i64 q)) B (.slice (some ⟨g, 0, none⟩) n cap) (l.set k (p, q)) ∧
    Below B w ((w.setCell ⟨g, k * 2, none⟩ (.int .i64 p)).setCell ⟨g, k * 2 + 1, none⟩ (.int .i64 q)) := by
  have hB := Row.from_ h ⟨g, 0, none⟩ rfl
  refine ⟨?_, ((Below.refl _ _).setCell (p := ⟨g, k * 2, none⟩) hB _).setCell (p := ⟨g, k * 2 + 1, none⟩) hB _⟩
  obtain ⟨A, c, e, hd⟩ := Row.dots h
  have en : n = l.length := by cases e; rfl
  subst en
  have h1 := (World.ownsRow.stored (cap := cap) h (k * 2) (.int .i64 p)).1
  have h2 := (World.ownsRow.stored (cap := cap) h1 (k * 2 + 1) (.int .i64 q)).1
  unfold Row
  rw [dcells_set l k p q hk, List.length_set]
  exact h2
theorem Row.front (h : Row w B (.slice (some ⟨g, 0, none⟩) n cap) l) {k : Nat} (hk : k ≤ l.length) : Row w B (.slice (some ⟨g, 0, none⟩) k cap) (l.take k) := by
  rcases h.2 with ⟨h', _⟩ | ⟨g', cap', cur, h', hb, hg, hnc, hcm, hcs, htake⟩
  · cases h'
  · cases h'
    have e : (l.take k).length = k := by rw [List.length_take]; omega
    refine ⟨dcells_length _, .inr ⟨g, cap, cur, by rw [e], hb, hg, by omega, hcm, hcs, ?_⟩⟩
    rw [e]
    have h2 : dcells l = dcells (l.take k) ++ dcells (l.drop k) := by rw [← dcells_append, List.take_append_drop]
    rw [h2] at htake
    have h3 : cur.toList.take (k * 2) = (cur.toList.take (l.length * 2)).take (k * 2) := by rw [List.take_take, Nat.min_eq_left (by omega)]
    rw [h3, htake, List.take_append_of_le_length (by rw [dcells_length, e]; exact Nat.le_refl _), List.take_of_length_le (by rw [dcells_length, e]; exact Nat.le_refl _)]
end
theorem setRow_size (w : World) (g : Nat) (cs : Array Value) : (w.setRow g cs).heap.size = w.heap.size := by simp [World.setRow]
theorem _root_.Go.RowKit.Below.setRow_ {B : Nat} {a w : World} (h : Below B a w) (g : Nat) (cs : Array Value) (hB : B ≤ g) : Below B a (w.setRow g cs) :=
  h.trans ⟨rfl, rfl, rfl, by rw [setRow_size]; exact Nat.le_refl _, fun k hk => setRow_other w g k cs (by omega)⟩
/-- clear(s[k:]) of a row of the call's own: what lies in front is as it was. -/
theorem run_clear_row {t : TypeId} (ht : Try.prog.underlying t = some (.slice 27)) {w : World} {B g cap : Nat} {l : List Dot} (h : Row w B (.slice (some ⟨g, 0, none⟩) l.length cap) l) {k : Nat} (hk : k ≤ l.length) (ty : TypeId) :
    ∃ w', (Builtin.clear_ #[t] ty #[.slice (cutA (some ⟨g, 0, none⟩) cap k) (l.length - k) (cap - k)]).run Try.prog w = .ok (.tuple #[]) w' ∧ Row w' B (.slice (some ⟨g, 0, none⟩) k cap) (l.take k) ∧ Below B w w' := by
  by_cases he : l.length = k
  · subst he
    refine ⟨w, ?_, by simpa using h, Below.refl _ _⟩
    rw [Nat.sub_self]
    cases cutA (some ⟨g, 0, none⟩) cap l.length <;> simp [Builtin.clear_, run_underlying ht]
  · obtain ⟨i, hi, hz, hsz, hby⟩ := info_dot
    have hB := Row.from_ h ⟨g, 0, none⟩ rfl
    rcases h.2 with ⟨h', _⟩ | ⟨g', cap', cur, h', hb, hg, hnc, hcm, hcs, htake⟩
    · cases h'
    · cases h'
      have hc : ¬ cap = k := by omega
      have ea : cutA (some ⟨g, 0, none⟩) cap k = some ⟨g, k * 2, none⟩ := by unfold cutA; rw [if_neg hc]; simp [add_lit]
      obtain ⟨m, hm⟩ : ∃ m, l.length - k = m + 1 := ⟨l.length - k - 1, by omega⟩
      have hfit : k * 2 + 0 + (Builtin.zeroCells #[.int .i64 0, .int .i64 0] (m + 1)).toList.length ≤ cur.size := by
        simp [size_zeroCells, hcs]; omega
      have hone : ∀ v ∈ (Builtin.zeroCells #[.int .i64 0, .int .i64 0] (m + 1)).toList, v.oneCell' = true := by
        intro v hv
        simp only [Builtin.zeroCells, Array.toList_map, List.mem_map] at hv
        obtain ⟨i, _, rfl⟩ := hv
        rcases Nat.mod_two_eq_zero_or_one i with hm | hm <;> (simp only [List.size_toArray, List.length_cons, List.length_nil]; rw [hm]; rfl)
      have hst := run_storeCells_at Try.prog g (k * 2) 27 (Builtin.zeroCells #[.int .i64 0, .int .i64 0] (m + 1)).toList 0 cur w hg hfit hone
      generalize hzs : (Builtin.zeroCells #[.int .i64 0, .int .i64 0] (m + 1)).toList = zs at *
      refine ⟨w.setRow g (cur.toList.take (k * 2 + 0) ++ zs ++ cur.toList.drop (k * 2 + 0 + zs.length)).toArray, ?_, ?_, (Below.refl _ w).setRow_ g _ hB⟩
      · rw [ea, hm]
        have hz' : (zeroValue 27).run Try.prog w = .ok (.agg #[.int .i64 0, .int .i64 0]) w := by simp [go_sem]
        simp [Builtin.clear_, run_underlying ht, hz', Value.cells, hzs, hst]
      · have hhl := setRow_heap w g cur (cur.toList.take (k * 2 + 0) ++ zs ++ cur.toList.drop (k * 2 + 0 + zs.length)).toArray 27 (0, 0) hg
        have e : (l.take k).length = k := by rw [List.length_take]; omega
        have h2 : dcells l = dcells (l.take k) ++ dcells (l.drop k) := by rw [← dcells_append, List.take_append_drop]
        have h3 : cur.toList.take (k * 2) = dcells (l.take k) := by
          have h4 : cur.toList.take (k * 2) = (cur.toList.take (l.length * 2)).take (k * 2) := by rw [List.take_take, Nat.min_eq_left (by omega)]
          rw [h4, htake, h2, List.take_append_of_le_length (by rw [dcells_length, e]; exact Nat.le_refl _), List.take_of_length_le (by rw [dcells_length, e]; exact Nat.le_refl _)]
        refine ⟨dcells_length _, .inr ⟨g, cap, _, by rw [e], hb, hhl, by omega, hcm, ?_, ?_⟩⟩
        · have := hfit; simp [hcs] at this ⊢; omega
        · rw [e, Nat.add_zero, h3]
          simp only [List.append_assoc]
          rw [List.take_append_of_le_length (by rw [dcells_length, e]; exact Nat.le_refl _), List.take_of_length_le (by rw [dcells_length, e]; exact Nat.le_refl _)]
end Go.Proofs.Ytjbakmmmgejhlaa

/-
  slices.Compact on a row of the call's own.
-/
namespace Go.Proofs.Ytjbakmmmgejhlaa
open Go.RowKit

theorem dot_eql {x y u v : Int} {a c : Operand} {w : World} (r : Bool) (h : deq (x, y) (u, v) = r) : (eqGuard .eql 27 a c (.agg #[.int .i64 x, .int .i64 y]) (.agg #[.int .i64 u, .int .i64 v])).run Try.prog w = .ok () w ∧ (Go.binOp .eql 27 (.agg #[.int .i64 x, .int .i64 y]) (.agg #[.int .i64 u, .int .i64 v])).run Try.prog w = .ok (.bool r) w := ⟨by simp [go_sem], by rw [← h]; exact run_eql_dot x y u v w⟩
theorem dot_neq {x y u v : Int} {a c : Operand} {w : World} (r : Bool) (h : deq (x, y) (u, v) = r) : (eqGuard .neq 27 a c (.agg #[.int .i64 x, .int .i64 y]) (.agg #[.int .i64 u, .int .i64 v])).run Try.prog w = .ok () w ∧ (Go.binOp .neq 27 (.agg #[.int .i64 x, .int .i64 y]) (.agg #[.int .i64 u, .int .i64 v])).run Try.prog w = .ok (.bool !r) w := ⟨by simp [go_sem], by rw [← h]; exact run_neq_dot x y u v w⟩

/-- What a row of the call's own gives back. -/
def RetOwn (B : Nat) (l : List Dot) (w : World) (e : Ending) (w' : World) : Prop := ∃ v, e = .returned v ∧ Below B w w' ∧ Row w' B v l
def ScanRel (w : World) (n : Nat) (l : List Dot) (i : Value) (wr : World) : Prop :=
  ∃ k : Nat, i = .int .i64 k ∧ 1 ≤ k ∧ k ≤ n ∧ Below w.heap.size w wr ∧ compL (l.take k) = l.take k
def PackRel (B : Nat) (v : Value) (w : World) (n k0 : Nat) (l : List Dot) (i j : Value) (wr : World) : Prop :=
  ∃ (k m : Nat) (l' : List Dot), i = .int .i64 k ∧ j = .int .i64 m ∧ 1 ≤ m ∧ 1 ≤ k ∧ k < k0 + m ∧ k0 + m ≤ n ∧ Below B w wr ∧ Row wr B v l' ∧ l'.length = l.length ∧ l'.drop k = l.drop k ∧ l'.take k = compL (l.take (k0 + m))

theorem drop_get {l l' : List Dot} {k j : Nat} (h : l'.drop k = l.drop k) (hj : k ≤ j) : l'[j]? = l[j]? := by
  have h1 : (l'.drop k)[j - k]? = (l.drop k)[j - k]? := by rw [h]
  rw [List.getElem?_drop, List.getElem?_drop, show k + (j - k) = j by omega] at h1
  exact h1

set_option maxRecDepth 100000 in
set_option maxHeartbeats 4000000 in
theorem dcompact_row (B g cap : Nat) (l : List Dot) (w : World) (h : Row w B (.slice (some ⟨g, 0, none⟩) l.length cap) l) (hs : Small l.length) (h2 : 2 ≤ l.length) :
    Calls Try.prog 78 #[.slice (some ⟨g, 0, none⟩) l.length cap] w (RetOwn B (compL l) w) := by
  obtain ⟨A, c, eA, hd⟩ := Row.dots h
  obtain ⟨rfl, rfl⟩ : A = some ⟨g, 0, none⟩ ∧ c = cap := by cases eA; exact ⟨rfl, rfl⟩
  clear eA
  have hcap := hd.cap
  have hmx := hd.big
  have hB : B ≤ g := Row.from_ h ⟨g, 0, none⟩ rfl
  have hgz : g < w.heap.size := (Row.holds h).2
  have hs9 := hs.out
  obtain ⟨n, hn⟩ : ∃ n, n = l.length := ⟨_, rfl⟩
  rw [← hn] at hs h2 hcap hmx hd h hs9 ⊢
  have HD := Lib.hid hd; have HN := Lib.hid hn; have H := Lib.hid h
  clear hd hn h
  go_enter Try.func78, Try.ntmps78
  go_wp2
  go_loopw [3] (fun i wr => ScanRel w n l i wr) (fun i _ => n - (intOf i).toNat)
  case atStart => exact ⟨1, rfl, Nat.le_refl _, by omega, Below.refl _ _, compL_one (by rw [List.length_take]; omega)⟩
  case round =>
    obtain ⟨k, rfl, hk1, hk, hb, hc⟩ := hrel
    have HC := Lib.hid hc; clear hc
    by_cases hlt : k < n
    · obtain ⟨b, o, p, q, e, hbk, e1, d1, c1, c2⟩ := (HD.out.mono hb).at_ (k := k) hlt
      obtain ⟨rfl, rfl⟩ : g = b ∧ 0 = o := by simpa using e
      obtain ⟨b', o', u, v, e', hbk', e2, d2, c3, c4⟩ := (HD.out.mono hb).at_ (k := k - 1) (by omega)
      obtain ⟨rfl, rfl⟩ : g = b' ∧ 0 = o' := by simpa using e'
      obtain ⟨j, rfl⟩ : ∃ j, k = j + 1 := ⟨k - 1, by omega⟩
      simp only [Nat.add_sub_cancel] at e2 d2 c3 c4
      have hst := compL_step e2 e1
      have C1 := Lib.hid c1; have C2 := Lib.hid c2; have C3 := Lib.hid c3; have C4 := Lib.hid c4; have ST := Lib.hid hst; have E1 := Lib.hid e1; have E2 := Lib.hid e2
      clear c1 c2 c3 c4 hst e1 e2 d1 d2 e e'
      have hj9 : j + 1 ≤ 9223372036854775807 := by omega
      cases hq : deq (p, q) (u, v) with
      | false =>
        have HQ := Lib.hid hq; clear hq
        go_wp2_with fail
        refine wp_region_M mixed (by kernel_rfl) ?_
        refine MDerR.step (Ob.move Wanted.free Has.oldIs) ?_
        refine MDerR.step (Ob.move Wanted.free Has.oldIs) ?_
        refine MDerR.step (Ob.indexV Wanted.free (Has.new 0 1) (Has.new 1 0) (fun w1 => index_dots hlt)) ?_
        refine MDerR.step (Ob.loadV Wanted.free (Has.new 2 0) (fun w1 hb1 => load_dot hb1 C1.out C2.out)) ?_
        refine MDerR.step (Ob.move Wanted.free Has.oldIs) ?_
        refine MDerR.step (Ob.move Wanted.free Has.oldIs) ?_
        refine MDerR.step (Ob.binV Wanted.free (Has.new 5 0) (Has.cst _) (fun w1 => sub_one hj9)) ?_
        refine MDerR.step (Ob.indexV Wanted.free (Has.new 4 2) (Has.new 6 0) (fun w1 => index_dots (by omega))) ?_
        refine MDerR.step (Ob.loadV Wanted.free (Has.new 7 0) (fun w1 hb1 => load_dot hb1 C3.out C4.out)) ?_
        refine MDerR.step (Ob.binV Wanted.free (Has.new 3 5) (Has.new 8 0) (fun w1 => dot_eql false HQ.out)) ?_
        simp only [MDerR, dstsOf, List.map, EndM, List.reverse_cons, List.reverse_nil, List.nil_append, List.cons_append]
        intro wE hE
        iterate 10 (rintro _ rfl)
        simp only [Act.put, List.setIfInBounds_toArray, List.set_cons_zero, List.set_cons_succ]
        go_wp2
        go_roundw
        case rel => exact ⟨j + 1 + 1, by simp, by omega, hlt, hb.le hE, by rw [ST.out, if_neg (deq_not.1 HQ.out), HC.out, take_snoc E1.out]⟩
        case measure => simp [intOf]; omega
      | true =>
        have HQ := Lib.hid hq; clear hq
        go_wp2_with fail
        refine wp_region_M mixed (by kernel_rfl) ?_
        refine MDerR.step (Ob.move Wanted.free Has.oldIs) ?_
        refine MDerR.step (Ob.move Wanted.free Has.oldIs) ?_
        refine MDerR.step (Ob.indexV Wanted.free (Has.new 0 1) (Has.new 1 0) (fun w1 => index_dots hlt)) ?_
        refine MDerR.step (Ob.loadV Wanted.free (Has.new 2 0) (fun w1 hb1 => load_dot hb1 C1.out C2.out)) ?_
        refine MDerR.step (Ob.move Wanted.free Has.oldIs) ?_
        refine MDerR.step (Ob.move Wanted.free Has.oldIs) ?_
        refine MDerR.step (Ob.binV Wanted.free (Has.new 5 0) (Has.cst _) (fun w1 => sub_one hj9)) ?_
        refine MDerR.step (Ob.indexV Wanted.free (Has.new 4 2) (Has.new 6 0) (fun w1 => index_dots (by omega))) ?_
        refine MDerR.step (Ob.loadV Wanted.free (Has.new 7 0) (fun w1 hb1 => load_dot hb1 C3.out C4.out)) ?_
        refine MDerR.step (Ob.binV Wanted.free (Has.new 3 5) (Has.new 8 0) (fun w1 => dot_eql true HQ.out)) ?_
        simp only [MDerR, dstsOf, List.map, EndM, List.reverse_cons, List.reverse_nil, List.nil_append, List.cons_append]
        intro wE hE
        iterate 10 (rintro _ rfl)
        simp only [Act.put, List.setIfInBounds_toArray, List.set_cons_zero, List.set_cons_succ]
        have hrow := Row.mono (Row.mono H.out hb) hE
        have hbel := (hb.le hE).mono (B' := B) (by omega)
        have hsl := fun w => slice_from_dots (w := w) (A := some ⟨g, 0, none⟩) (n := n) (c := c) (k := j + 1) (Nat.le_of_lt hlt) hcap
        have hcut : cutA (some ⟨g, 0, none⟩) c (j + 1) = some ⟨g, (j + 1) * 2, none⟩ := by unfold cutA; rw [if_neg (by omega)]; simp [add_lit]
        have hst : compL (l.take (j + 1 + 1)) = l.take (j + 1) := by rw [ST.out, if_pos (deq_iff.1 HQ.out), HC.out]
        have HROW := Lib.hid hrow; have HBEL := Lib.hid hbel; have HST := Lib.hid hst; have HCUT := Lib.hid hcut
        clear hrow hbel hst hE hb
        rw [hcut] at hsl
        clear hcut C1 C2 C3 C4 HQ ST HC E1 E2
        generalize wE = W at *
        go_wp2
        go_loopw [3, 5] (fun i m w2 => PackRel B (.slice (some ⟨g, 0, none⟩) n c) W n (j + 1) l i m w2) (fun _ m _ => n - (intOf m).toNat)
        case atStart => exact ⟨j + 1, 1, l, rfl, rfl, Nat.le_refl _, by omega, by omega, by omega, Below.refl _ _, HROW.out, rfl, rfl, HST.out.symm⟩
        case round =>
          obtain ⟨k, m, l', rfl, rfl, hm1, hk1, hkm, hmn, hb, hr, hl', hdr, htk⟩ := hrel
          have HR := Lib.hid hr; have HDR := Lib.hid hdr; have HTK := Lib.hid htk; have HB2 := Lib.hid hb; have HL' := Lib.hid hl'
          have hd' : Dots wr (some ⟨g, 0, none⟩) n c l' := by
            obtain ⟨A, c', e, hd'⟩ := Row.dots hr
            cases e; exact hd'
          have hds := hd'.drop (k := j + 1) (Nat.le_of_lt hlt)
          rw [HCUT.out] at hds
          have HDS := Lib.hid hds
          clear hr hdr htk hb hl' hds hd'
          by_cases hlm : m < n - (j + 1)
          · obtain ⟨b, o, p, q, e, hbk, e1, d1, c1, c2⟩ := HDS.out.at_ (k := m) hlm
            obtain ⟨rfl, rfl⟩ : g = b ∧ (j + 1) * 2 = o := by simpa using e
            obtain ⟨m', rfl⟩ : ∃ m', m = m' + 1 := ⟨m - 1, by omega⟩
            obtain ⟨b', o', u, v, e', hbk', e2, d2, c3, c4⟩ := HDS.out.at_ (k := m') (by omega)
            obtain ⟨rfl, rfl⟩ : g = b' ∧ (j + 1) * 2 = o' := by simpa using e'
            rw [List.getElem?_drop] at e1 e2
            rw [drop_get HDR.out (by omega)] at e1 e2
            have hst : compL (l.take (j + 1 + (m' + 1 + 1))) = if (p, q) = (u, v) then compL (l.take (j + 1 + (m' + 1))) else compL (l.take (j + 1 + (m' + 1))) ++ [(p, q)] := compL_step (j := j + 1 + m') e2 (by simpa [Nat.add_assoc] using e1)
            have hm9 : m' + 1 ≤ 9223372036854775807 := by omega
            have C1 := Lib.hid c1; have C2 := Lib.hid c2; have C3 := Lib.hid c3; have C4 := Lib.hid c4; have ST := Lib.hid hst
            clear c1 c2 c3 c4 hst e1 e2 d1 d2 e e' hsl
            cases hq : deq (p, q) (u, v) with
            | true =>
              have HQ := Lib.hid hq; clear hq
              go_wp2_with fail
              refine wp_region_M mixed (by kernel_rfl) ?_
              refine MDerR.step (Ob.move Wanted.free Has.oldIs) ?_
              refine MDerR.step (Ob.move Wanted.free Has.oldIs) ?_
              refine MDerR.step (Ob.indexV Wanted.free (Has.new 0 1) (Has.new 1 0) (fun w1 => index_dots hlm)) ?_
              refine MDerR.step (Ob.loadV Wanted.free (Has.new 2 0) (fun w1 hb1 => load_dot hb1 C1.out C2.out)) ?_
              refine MDerR.step (Ob.move Wanted.free Has.oldIs) ?_
              refine MDerR.step (Ob.move Wanted.free Has.oldIs) ?_
              refine MDerR.step (Ob.binV Wanted.free (Has.new 5 0) (Has.cst _) (fun w1 => sub_one hm9)) ?_
              refine MDerR.step (Ob.indexV Wanted.free (Has.new 4 2) (Has.new 6 0) (fun w1 => index_dots (by omega))) ?_
              refine MDerR.step (Ob.loadV Wanted.free (Has.new 7 0) (fun w1 hb1 => load_dot hb1 C3.out C4.out)) ?_
              refine MDerR.step (Ob.binV Wanted.free (Has.new 3 5) (Has.new 8 0) (fun w1 => dot_neq true HQ.out)) ?_
              simp only [MDerR, dstsOf, List.map, EndM, List.reverse_cons, List.reverse_nil, List.nil_append, List.cons_append]
              intro wE hE
              iterate 10 (rintro _ rfl)
              simp only [Act.put, List.setIfInBounds_toArray, List.set_cons_zero, List.set_cons_succ]
              go_wp2
              go_roundw
              case rel => exact ⟨k, m' + 1 + 1, l', rfl, by simp, by omega, hk1, by omega, by omega, HB2.out.trans (hE.mono (by have := HB2.out.size; have := HBEL.out.size; omega)), Row.mono HR.out hE, HL'.out, HDR.out, by rw [ST.out, if_pos (deq_iff.1 HQ.out)]; exact HTK.out⟩
              case measure => simp [intOf]; omega
            | false =>
              have HQ := Lib.hid hq; clear hq
              go_wp2_with fail
              refine wp_region_M mixed (by kernel_rfl) ?_
              refine MDerR.step (Ob.move Wanted.free Has.oldIs) ?_
              refine MDerR.step (Ob.move Wanted.free Has.oldIs) ?_
              refine MDerR.step (Ob.indexV Wanted.free (Has.new 0 1) (Has.new 1 0) (fun w1 => index_dots hlm)) ?_
              refine MDerR.step (Ob.loadV Wanted.free (Has.new 2 0) (fun w1 hb1 => load_dot hb1 C1.out C2.out)) ?_
              refine MDerR.step (Ob.move Wanted.free Has.oldIs) ?_
              refine MDerR.step (Ob.move Wanted.free Has.oldIs) ?_
              refine MDerR.step (Ob.binV Wanted.free (Has.new 5 0) (Has.cst _) (fun w1 => sub_one hm9)) ?_
              refine MDerR.step (Ob.indexV Wanted.free (Has.new 4 2) (Has.new 6 0) (fun w1 => index_dots (by omega))) ?_
              refine MDerR.step (Ob.loadV Wanted.free (Has.new 7 0) (fun w1 hb1 => load_dot hb1 C3.out C4.out)) ?_
              refine MDerR.step (Ob.binV Wanted.free (Has.new 3 5) (Has.new 8 0) (fun w1 => dot_neq false HQ.out)) ?_
              simp only [MDerR, dstsOf, List.map, EndM, List.reverse_cons, List.reverse_nil, List.nil_append, List.cons_append]
              intro wE hE
              iterate 10 (rintro _ rfl)
              simp only [Act.put, List.setIfInBounds_toArray, List.set_cons_zero, List.set_cons_succ]
              have hrE := Row.mono HR.out hE
              have hkl : k < l'.length := by rw [HL'.out, ← HN.out]; omega
              have hrE' : Row wE B (.slice (some ⟨g, 0, none⟩) l'.length c) l' := by rw [HL'.out, ← HN.out]; exact hrE
              have ix := fun w => (index_dots (w := w) (b := g) (o := (j + 1) * 2) (n := n - (j + 1)) (c := c - (j + 1)) hlm)
              have y1 := cellKeep hE C1.out; have y2 := cellKeep hE C2.out
              obtain ⟨s1, s2⟩ := dcells_get l' k l'[k] (List.getElem?_eq_getElem hkl)
              have f1 := (World.ownsRow.cellAt hrE' (k * 2) (by omega)).trans s1
              have f2 := (World.ownsRow.cellAt hrE' (k * 2 + 1) (by omega)).trans s2
              have z1 := World.ownsRow.frozenAt hrE' (k * 2)
              have z2 := World.ownsRow.frozenAt hrE' (k * 2 + 1)
              have hp := Row.put hrE hkl p q
              have HP := Lib.hid hp; have HE := Lib.hid hE; have HKL := Lib.hid hkl
              clear hrE hrE' hp hE s1 s2 C1 C2 C3 C4
              have hkn : k < n := by omega
              go_wp2
              go_roundw
              case rel =>
                refine ⟨k + 1, m' + 1 + 1, l'.set k (p, q), by simp, by simp, by omega, by omega, by omega, by omega, (HB2.out.trans (HE.out.mono (by have := HB2.out.size; have := HBEL.out.size; omega))).trans HP.out.2, HP.out.1, by rw [List.length_set]; exact HL'.out, ?_, ?_⟩
                · rw [List.drop_set_of_lt (by omega), ← List.drop_drop, HDR.out, List.drop_drop]
                · have hset : (l'.set k (p, q))[k]? = some (p, q) := by rw [List.getElem?_set_self HKL.out]
                  rw [take_snoc hset, List.take_set_of_le (Nat.le_refl _), HTK.out, ST.out, if_neg (deq_not.1 HQ.out)]
              case measure => simp [intOf]; omega
          · have hfin : l'.take k = compL l := by
              have h9 : l.take (j + 1 + m) = l := List.take_of_length_le (by rw [← HN.out]; omega)
              have := HTK.out
              rw [h9] at this
              exact this
            have hR' : Row wr B (.slice (some ⟨g, 0, none⟩) l'.length c) l' := by rw [HL'.out, ← HN.out]; exact HR.out
            have hsl2 := fun w => slice_from_dots (w := w) (A := some ⟨g, 0, none⟩) (n := n) (c := c) (k := k) (by omega) hcap
            have hsl3 := fun w => slice_to_dots (w := w) (A := some ⟨g, 0, none⟩) (n := n) (c := c) (k := k) (by omega)
            have hcl := fun ty => run_clear_row Try.underlying28 hR' (k := k) (by rw [HL'.out, ← HN.out]; omega) ty
            rw [HL'.out, ← HN.out] at hcl
            obtain ⟨w', hc1, hc2, hc3⟩ := hcl 0
            have hc4 : ∀ ty, (Builtin.clear_ #[28] ty #[.slice (cutA (some ⟨g, 0, none⟩) c k) (n - k) (c - k)]).run Try.prog wr = .ok (.tuple #[]) w' := fun ty => hc1
            have R2 := Lib.hid hc2; have R3 := Lib.hid hc3; have FIN := Lib.hid hfin
            generalize cutA (some ⟨g, 0, none⟩) c k = Z at *
            clear hcl hc1 hc2 hc3 hR' hfin hsl
            go_wp2
            go_ret
            exact ⟨_, rfl, (HBEL.out.trans HB2.out).trans R3.out, by rw [← FIN.out]; exact R2.out⟩
    · have e : compL l = l := by have := HC.out; rwa [List.take_of_length_le (by rw [← HN.out]; omega)] at this
      have E := Lib.hid e; clear e
      go_wp2
      go_ret
      exact ⟨_, rfl, hb.mono (by omega), by rw [E.out]; have := Row.mono H.out hb; exact this⟩
set_option maxRecDepth 100000 in
theorem dcompact (B : Nat) (v : Value) (l : List Dot) (w : World) (h : Row w B v l) (hs : Small l.length) :
    Calls Try.prog 78 #[v] w (RetOwn B (compL l) w) := by
  by_cases h2 : 2 ≤ l.length
  · rcases h.2 with ⟨rfl, h0⟩ | ⟨g, cap, cur, rfl, _⟩
    · omega
    · exact dcompact_row B g cap l w h hs h2
  · obtain ⟨A, c, rfl, hd⟩ := Row.dots h
    have e := compL_one (l := l) (by omega)
    have H := Lib.hid h; have E := Lib.hid e; clear h e hd
    have hc : decide ((l.length : Int) < 2) = true := by rw [decide_eq_true_iff]; omega
    have h2' : l.length < 2 := by omega
    generalize hn : l.length = n at *
    have HN := Lib.hid hn; clear hn
    go_enter Try.func78, Try.ntmps78
    go_wp2
    go_ret
    exact ⟨_, rfl, Below.refl _ _, by rw [E.out]; exact H.out⟩
end Go.Proofs.Ytjbakmmmgejhlaa

/-
  PLAIN: sets of dots: in order, known by what is in them.
-/
namespace Go.Proofs.Ytjbakmmmgejhlaa
open Go.RowKit

theorem less_trans {a b c : Dot} (h1 : lessD a b = true) (h2 : lessD b c = true) : lessD a c = true := by rw [lessD_iff] at *; omega
theorem less_irrefl (a : Dot) : lessD a a = false := by cases h : lessD a a with | false => rfl | true => rw [lessD_iff] at h; omega
theorem less_asymm {a b : Dot} (h : lessD a b = true) : lessD b a = false := by
  cases h2 : lessD b a with | false => rfl | true => rw [lessD_iff] at h h2; omega
theorem less_total {a b : Dot} (h1 : lessD a b = false) (h2 : lessD b a = false) : a = b := by
  have n1 : ¬ lessD a b = true := by rw [h1]; simp
  have n2 : ¬ lessD b a = true := by rw [h2]; simp
  rw [lessD_iff] at n1 n2
  apply Prod.ext <;> omega

def Ord (l : List Dot) : Prop := l.Pairwise (fun a b => lessD a b = true)
theorem isSet_ord : ∀ l : List Dot, isSet l = true ↔ Ord l
  | [] => by simp [isSet, Ord]
  | [a] => by simp [isSet, Ord]
  | a :: b :: t => by
    have ih := isSet_ord (b :: t)
    simp only [isSet, Bool.and_eq_true, ih]
    unfold Ord
    rw [List.pairwise_cons (a := a)]
    constructor
    · rintro ⟨h1, h2⟩
      refine ⟨fun x hx => ?_, h2⟩
      rcases List.mem_cons.1 hx with rfl | hx
      · exact h1
      · exact less_trans h1 ((List.pairwise_cons.1 h2).1 x hx)
    · rintro ⟨h1, h2⟩
      exact ⟨h1 b List.mem_cons_self, h2⟩
theorem ord_ext : ∀ {a b : List Dot}, Ord a → Ord b → (∀ d, d ∈ a ↔ d ∈ b) → a = b
  | [], [], _, _, _ => rfl
  | [], b :: t, _, _, h => by have := (h b).2 List.mem_cons_self; cases this
  | a :: s, [], _, _, h => by have := (h a).1 List.mem_cons_self; cases this
  | a :: s, b :: t, ha, hb, h => by
    obtain ⟨ha1, ha2⟩ := List.pairwise_cons.1 ha
    obtain ⟨hb1, hb2⟩ := List.pairwise_cons.1 hb
    have e : a = b := by
      rcases List.mem_cons.1 ((h a).1 List.mem_cons_self) with e | hm
      · exact e
      · rcases List.mem_cons.1 ((h b).2 List.mem_cons_self) with e | hm2
        · exact e.symm
        · have h1 := hb1 a hm; have h2 := ha1 b hm2
          rw [less_asymm h1] at h2; cases h2
    subst e
    rw [ord_ext ha2 hb2 fun d => ⟨fun hd => ?_, fun hd => ?_⟩]
    · rcases List.mem_cons.1 ((h d).1 (List.mem_cons_of_mem _ hd)) with rfl | hm
      · have := ha1 d hd; rw [less_irrefl] at this; cases this
      · exact hm
    · rcases List.mem_cons.1 ((h d).2 (List.mem_cons_of_mem _ hd)) with rfl | hm
      · have := hb1 d hd; rw [less_irrefl] at this; cases this
      · exact hm

/-! ### With, Union -/
theorem take_cut : ∀ (d : Dot) (s : List Dot), ∀ a ∈ s.take (cutD d s), lessD a d = true
  | d, [], a, h => by simp at h
  | d, b :: t, a, h => by
    rw [cutD] at h
    split at h
    · rename_i hl
      rw [List.take_succ_cons] at h
      rcases List.mem_cons.1 h with rfl | h
      · exact hl
      · exact take_cut d t a h
    · simp at h
theorem drop_cut : ∀ (d : Dot) (s : List Dot), Ord s → d ∉ s → ∀ a ∈ s.drop (cutD d s), lessD d a = true
  | d, [], _, _, a, h => by simp at h
  | d, b :: t, ho, hd, a, h => by
    obtain ⟨h1, h2⟩ := List.pairwise_cons.1 ho
    rw [cutD] at h
    split at h
    · rw [List.drop_succ_cons] at h
      exact drop_cut d t h2 (fun hm => hd (List.mem_cons_of_mem _ hm)) a h
    · rename_i hl
      have hl' : lessD b d = false := by simpa using hl
      have hbd : lessD d b = true := by
        cases h3 : lessD d b with
        | true => rfl
        | false => exact absurd (less_total h3 hl') (fun e => hd (e ▸ List.mem_cons_self))
      rw [List.drop_zero] at h
      rcases List.mem_cons.1 h with rfl | h
      · exact hbd
      · exact less_trans hbd (h1 a h)
theorem mem_with {s : List Dot} {d x : Dot} : x ∈ withD s d ↔ x ∈ s ∨ x = d := by
  unfold withD
  split
  · rename_i h
    have := memD_iff.1 h
    constructor
    · exact Or.inl
    · rintro (h | rfl) <;> assumption
  · rw [List.mem_append, List.mem_cons]
    conv => rhs; rw [← List.take_append_drop (cutD d s) s, List.mem_append]
    constructor
    · rintro (h | h | h)
      · exact .inl (.inl h)
      · exact .inr h
      · exact .inl (.inr h)
    · rintro ((h | h) | h)
      · exact .inl h
      · exact .inr (.inr h)
      · exact .inr (.inl h)
theorem ord_with {s : List Dot} (d : Dot) (h : Ord s) : Ord (withD s d) := by
  unfold withD
  split
  · exact h
  · rename_i hm
    have hd : d ∉ s := fun hd => hm (memD_iff.2 hd)
    have h1 := take_cut d s
    have h2 := drop_cut d s h hd
    unfold Ord
    rw [List.pairwise_append, List.pairwise_cons]
    have h3 : Ord (s.take (cutD d s) ++ s.drop (cutD d s)) := by rw [List.take_append_drop]; exact h
    unfold Ord at h3
    rw [List.pairwise_append] at h3
    refine ⟨h3.1, ⟨h2, h3.2.1⟩, fun a ha b hb => ?_⟩
    rcases List.mem_cons.1 hb with rfl | hb
    · exact h1 a ha
    · exact less_trans (h1 a ha) (h2 b hb)
theorem fold_with : ∀ (l s : List Dot), Ord s → Ord (l.foldl withD s) ∧ ∀ x, x ∈ l.foldl withD s ↔ x ∈ s ∨ x ∈ l
  | [], s, h => ⟨h, fun x => by simp⟩
  | a :: t, s, h => by
    obtain ⟨h1, h2⟩ := fold_with t (withD s a) (ord_with a h)
    refine ⟨h1, fun x => ?_⟩
    rw [List.foldl_cons, h2, mem_with, List.mem_cons, or_assoc]
theorem ord_union (a b : List Dot) : Ord (unionD a b) := (fold_with b _ (fold_with a [] List.Pairwise.nil).1).1
theorem mem_union {a b : List Dot} {x : Dot} : x ∈ unionD a b ↔ x ∈ a ∨ x ∈ b := by
  unfold unionD
  rw [(fold_with b _ (fold_with a [] List.Pairwise.nil).1).2, (fold_with a [] List.Pairwise.nil).2]; simp

/-! ### slices.Compact of what is sorted -/
theorem comp_ord : ∀ (l acc : List Dot), Ord acc → (∀ a ∈ acc, ∀ b ∈ l, lessD b a = false) → l.Pairwise (fun a b => lessD b a = false) → Ord (l.foldl compG acc) ∧ ∀ x, x ∈ l.foldl compG acc ↔ x ∈ acc ∨ x ∈ l
  | [], acc, h, _, _ => ⟨h, fun x => by simp⟩
  | d :: t, acc, h, h2, h3 => by
    obtain ⟨h4, h5⟩ := List.pairwise_cons.1 h3
    rw [List.foldl_cons]
    by_cases hl : acc.getLast? = some d
    · have e : compG acc d = acc := by unfold compG; rw [if_pos hl]
      have hm : d ∈ acc := List.mem_of_getLast? hl
      rw [e]
      obtain ⟨i1, i2⟩ := comp_ord t acc h (fun a ha b hb => h2 a ha b (List.mem_cons_of_mem _ hb)) h5
      refine ⟨i1, fun x => ?_⟩
      rw [i2, List.mem_cons]
      constructor
      · rintro (h | h) <;> simp [h]
      · rintro (h | rfl | h)
        · exact .inl h
        · exact .inl hm
        · exact .inr h
    · have e : compG acc d = acc ++ [d] := by unfold compG; rw [if_neg hl]
      have hall : ∀ a ∈ acc, lessD a d = true := by
        intro a ha
        have hz : lessD d a = false := h2 a ha d List.mem_cons_self
        cases h6 : lessD a d with
        | true => rfl
        | false =>
          have ead := less_total h6 hz
          subst ead
          exfalso
          obtain ⟨ini, z, hac⟩ : ∃ ini z, acc = ini ++ [z] := by
            rcases List.eq_nil_or_concat acc with h | ⟨i, z, h⟩
            · rw [h] at ha; cases ha
            · exact ⟨i, z, by simpa using h⟩
          subst hac
          rw [List.getLast?_concat] at hl
          rcases List.mem_append.1 ha with hi | hi
          · unfold Ord at h
            rw [List.pairwise_append] at h
            have h7 := h.2.2 a hi z (by simp)
            have h8 := h2 z (by simp) a List.mem_cons_self
            rw [h8] at h7; cases h7
          · simp at hi; subst hi; exact hl rfl
      have hacc : Ord (acc ++ [d]) := by
        unfold Ord at h ⊢
        rw [List.pairwise_append]
        exact ⟨h, by simp, fun a ha b hb => by simp at hb; subst hb; exact hall a ha⟩
      rw [e]
      obtain ⟨i1, i2⟩ := comp_ord t (acc ++ [d]) hacc (fun a ha b hb => by
        rcases List.mem_append.1 ha with h' | h'
        · exact h2 a h' b (List.mem_cons_of_mem _ hb)
        · simp at h'; subst h'; exact h4 b hb) h5
      refine ⟨i1, fun x => ?_⟩
      rw [i2, List.mem_append, List.mem_singleton, List.mem_cons, or_assoc]
theorem comp_sorted {l l' : List Dot} (h : SortOf lessD l l') : compL l' = unionD l [] := by
  obtain ⟨h1, h2⟩ := comp_ord l' [] List.Pairwise.nil (fun a ha => by cases ha) h.2
  refine ord_ext h1 (ord_union _ _) fun d => ?_
  show d ∈ l'.foldl compG [] ↔ _
  rw [h2, mem_union]
  simp [h.1.mem_iff]
end Go.Proofs.Ytjbakmmmgejhlaa
