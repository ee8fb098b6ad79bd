/-
  The sorts at nil; the sort of vectors.
-/
import Derived.Test.YtphhhnjeojdnkaaGreatDoorSPAM
import Derived.Lib.AppendZerosOnto
import Derived.Maps.RangeWalk
import Derived.Maps.OwnOps
import Derived.Maps.AppendAt
import Derived.Laws.BytesArg
import Derived.Lib.AppendStr
set_option linter.unusedSectionVars false
set_option linter.unusedVariables false
set_option linter.unusedSimpArgs false
set_option maxRecDepth 100000
set_option maxHeartbeats 8000000
namespace Go.Proofs.YtphhhnjeojdnkaaGreatDoor
open Go.RowKit
theorem insertion_nil (f : Value) (w : World) : Calls Tryz.prog 244 #[.slice none 0 0, .int .i64 0, .int .i64 0, f] w fun e w' => e = .returned (.tuple #[]) ∧ w' = w := by
  go_enter Tryz.func244, Tryz.ntmps244
  go_wp2
  go_rounds 1
  go_end0
  exact ⟨rfl, rfl⟩
theorem pdq_nil (limit : Int) (f : Value) (w : World) : Calls Tryz.prog 220 #[.slice none 0 0, .int .i64 0, .int .i64 0, .int .i64 limit, f] w fun e w' => e = .returned (.tuple #[]) ∧ w' = w := by
  have F := Lib.hid (insertion_nil f w)
  go_enter Tryz.func220, Tryz.ntmps220
  go_wp2
  refine wp_loop_rounds 1 ?_
  rw [rounds_succ]
  go_wp2_with (go_at_call 244; ((with_reducible refine F.out.mono ?_); rintro e w' ⟨rfl, rfl⟩))
  refine bodyPost_ret (results_none rfl _ _ _) rfl ?_
  exact ⟨rfl, rfl⟩
theorem bitsLen (n : Nat) (w : World) (h : n <= 1000000) : Calls Tryz.prog 221 #[.int .u64 (n : Int)] w fun e w' => e = .returned (.int .i64 (Lib.bitLen n : Nat)) ∧ w' = w := by
  have h := Any.bits_Len (SlLaysF0.n15.bits { Tryz.sortD with }) (n : Int) w (by omega) (by omega)
  rwa [Int.toNat_natCast] at h
theorem dsort (B : Nat) (v : Value) (l : List Dot) (w : World) (h : Row w B v l) (hs : Small l.length) :
    Calls Tryz.prog 176 #[v, .func (.func 177) #[] #[]] w (SortPost B lessD v l w) := by
  have hh := h
  rcases h.2 with ⟨rfl, h0⟩ | ⟨g, cap, cur, rfl, _⟩
  · have hl : l = [] := List.eq_nil_of_length_eq_zero h0
    subst hl
    have F1 := Lib.hid (show Calls Tryz.prog 221 #[.int .u64 0] w (fun e w' => e = .returned (.int .i64 (Lib.bitLen 0 : Nat)) ∧ w' = w) from bitsLen 0 w (by omega))
    have F2 := Lib.hid (fun lim => pdq_nil lim (.func (.func 177) #[] #[]) w)
    have HH := Lib.hid hh; clear hh h h0 hs
    go_enter Tryz.func176, Tryz.ntmps176
    go_wp2_with (first
      | (go_at_call 221; ((with_reducible refine F1.out.mono ?_); rintro e w' ⟨rfl, rfl⟩))
      | (go_at_call 220; ((with_reducible refine (F2.out _).mono ?_); rintro e w' ⟨rfl, rfl⟩)))
    go_end0
    exact ⟨rfl, Below.refl _ _, [], ⟨List.Perm.refl _, List.Pairwise.nil⟩, HH.out⟩
  · exact dsort_row B g cap l w hh hs
theorem vsort (B : Nat) (v : Value) (l : List Dot) (w : World) (h : Row w B v l) (hs : Small l.length) :
    Calls Tryz.prog 266 #[v, .func (.func 267) #[] #[]] w (SortPost B (ltOf keyV) v l w) := by
  have hh := h
  rcases h.2 with ⟨rfl, h0⟩ | ⟨g, cap, cur, rfl, _⟩
  · have hl : l = [] := List.eq_nil_of_length_eq_zero h0
    subst hl
    have F1 := Lib.hid (show Calls Tryz.prog 221 #[.int .u64 0] w (fun e w' => e = .returned (.int .i64 (Lib.bitLen 0 : Nat)) ∧ w' = w) from bitsLen 0 w (by omega))
    have F2 := Lib.hid (fun lim => pdq_nil lim (.func (.func 267) #[] #[]) w)
    have HH := Lib.hid hh; clear hh h h0 hs
    go_enter Tryz.func266, Tryz.ntmps266
    go_wp2_with (first
      | (go_at_call 221; ((with_reducible refine F1.out.mono ?_); rintro e w' ⟨rfl, rfl⟩))
      | (go_at_call 220; ((with_reducible refine (F2.out _).mono ?_); rintro e w' ⟨rfl, rfl⟩)))
    go_end0
    exact ⟨rfl, Below.refl _ _, [], ⟨List.Perm.refl _, List.Pairwise.nil⟩, HH.out⟩
  · obtain ⟨hH, hg⟩ := Row.holds hh
    have hsz : l.length < 4611686018427387904 := by have := hs.out; omega
    have hlim : Lib.bitLen l.length < 4611686018427387904 := Nat.lt_of_le_of_lt (Lib.bitLen_le l.length 62 (by omega) (by omega)) (by omega)
    have hp := AnyQ.pdqsortCmpFunc_all (P := Tryz.prog) { Tryz.sortD with } 2 Tryz.isAgg67 Tryz.sizeOf67 encD keyV 267 #[] swoKey g 0 cap l.toArray w enterMade1 (laysV g 0 _ w) ⟨encD_len, encD_one, hH, hg⟩ (l.toArray.size + 1) 0 l.toArray.size (Lib.bitLen l.length) l.toArray w (by omega) rfl (SWK.start hH) (Nat.zero_le _) (Nat.le_refl _) (by simpa using hsz) hlim (Or.inl rfl)
    change Calls Tryz.prog 220 _ _ _ at hp
    have e : l.toArray.size = l.length := by simp
    rw [e] at hp
    replace hp : Calls Tryz.prog 220 #[.slice (some ⟨g, 0, none⟩) l.length cap, .int .i64 0, .int .i64 (l.length : Int), .int .i64 (Lib.bitLen l.length : Nat), .func (.func 267) #[] #[]] w _ := hp
    have hl := bitsLen l.length w hs.out
    have wr : IntKind.u64.wrap (l.length : Int) = l.length := by simp [IntKind.wrap, IntKind.bits, IntKind.signed]; omega
    have srt := Go.Sort.pdq_sorts (ltOf keyV) swoKey l.toArray 0 l.toArray.size (Lib.bitLen l.toArray.size) true true (Nat.zero_le _) (Nat.le_refl _) (Or.inl rfl)
    rw [e] at srt
    generalize Go.Sort.pdq (ltOf keyV) l.toArray 0 l.length (Lib.bitLen l.length) true true = d at hp srt
    have HP := Lib.hid hp; have HL := Lib.hid hl; have HH := Lib.hid hh; have SRT := Lib.hid srt; have HG := Lib.hid hg
    clear hp hl hh h srt hH hs hlim e hg
    go_enter Tryz.func266, Tryz.ntmps266
    go_wp2_with (first
      | (go_at_call 221; ((with_reducible refine HL.out.mono ?_); rintro e w' ⟨rfl, rfl⟩))
      | (go_at_call 220; ((with_reducible refine HP.out.mono ?_); rintro e w' ⟨rfl, n, os, rfl⟩)))
    go_end0
    have hl : d.toList.length = l.length := by simpa using SRT.out.1.1
    have hr := Row.resorted HH.out hl n os
    refine ⟨rfl, by simpa using hr.2, d.toList, SortOf.of (by simpa using SRT.out.1) (by simpa using SRT.out.2), by simpa using hr.1⟩
end Go.Proofs.YtphhhnjeojdnkaaGreatDoor

/-
  slices.Compact: what it makes of a list; stores into a row of the call's own.
-/
namespace Go.Proofs.YtphhhnjeojdnkaaGreatDoor
open Go.RowKit
def compG (acc : List Dot) (d : Dot) : List Dot := if acc.getLast? = some d then acc else acc ++ [d]
def compL (l : List Dot) : List Dot := l.foldl compG []
theorem compL_snoc (l : List Dot) (d : Dot) : compL (l ++ [d]) = compG (compL l) d := by unfold compL; rw [List.foldl_append]; rfl
theorem compG_last (acc : List Dot) (d : Dot) : (compG acc d).getLast? = some d := by
  unfold compG; split
  · assumption
  · simp
theorem take_snoc {l : List Dot} {j : Nat} {d : Dot} (h : l[j]? = some d) : l.take (j + 1) = l.take j ++ [d] := by
  rw [List.take_add_one, h]; rfl
theorem compL_step {l : List Dot} {j : Nat} {a b : Dot} (h1 : l[j]? = some a) (h2 : l[j + 1]? = some b) : compL (l.take (j + 1 + 1)) = if b = a then compL (l.take (j + 1)) else compL (l.take (j + 1)) ++ [b] := by
  have e : (compL (l.take (j + 1))).getLast? = some a := by rw [take_snoc h1, compL_snoc, compG_last]
  rw [take_snoc h2, compL_snoc, compG, e]
  by_cases h : b = a
  · subst h; simp
  · have h' : ¬ a = b := fun e => h e.symm
    simp [h, h']
theorem compL_one {l : List Dot} (h : l.length <= 1) : compL l = l := by
  match l, h with
  | [], _ => rfl
  | [a], _ => rfl
section
variable {w : World} {B g cap n : Nat} {l : List Dot}
theorem dcells_set : ∀ (l : List Dot) (k : Nat) (p q : Int), k < l.length -> dcells (l.set k (p, q)) = ((dcells l).set (k * 2) (.int .i64 p)).set (k * 2 + 1) (.int .i64 q)
  | [], k, p, q, h => by simp at h
  | a :: t, 0, p, q, h => rfl
  | a :: t, k + 1, p, q, h => by
    have := dcells_set t k p q (by simpa using h)
    rw [List.set_cons_succ, dcells_cons, this, dcells_cons, show (k + 1) * 2 = k * 2 + 1 + 1 by omega]
    rfl
theorem Row.put (h : Row w B (.slice (some ⟨g, 0, none⟩) n cap) l) {k : Nat} (hk : k < l.length) (p q : Int) :
    Row ((w.setCell ⟨g, k * 2, none⟩ (.int .i64 p)).setCell ⟨g, k * 2 + 1, none⟩ (.int .i64 q)) B (.slice (some ⟨g, 0, none⟩) n cap) (l.set k (p, q)) ∧
    Below B w ((w.setCell ⟨g, k * 2, none⟩ (.int .i64 p)).setCell ⟨g, k * 2 + 1, none⟩ (.int .i64 q)) := by
  have hB := Row.from_ h ⟨g, 0, none⟩ rfl
  refine ⟨?_, ((Below.refl _ _).setCell (p := ⟨g, k * 2, none⟩) hB _).setCell (p := ⟨g, k * 2 + 1, none⟩) hB _⟩
  obtain ⟨A, c, e, hd⟩ := Row.dots h
  have en : n = l.length := by cases e; rfl
  subst en
  have h1 := (World.ownsRow.stored (cap := cap) h (k * 2) (.int .i64 p)).1
  have h2 := (World.ownsRow.stored (cap := cap) h1 (k * 2 + 1) (.int .i64 q)).1
  unfold Row
  rw [dcells_set l k p q hk, List.length_set]
  exact h2
end
theorem setRow_size (w : World) (g : Nat) (cs : Array Value) : (w.setRow g cs).heap.size = w.heap.size := by simp [World.setRow]
theorem _root_.Go.RowKit.Below.setRow_ {B : Nat} {a w : World} (h : Below B a w) (g : Nat) (cs : Array Value) (hB : B <= g) : Below B a (w.setRow g cs) :=
  h.trans ⟨rfl, rfl, rfl, by rw [setRow_size]; exact Nat.le_refl _, fun k hk => setRow_other w g k cs (by omega)⟩
theorem run_clear_row {t : TypeId} (ht : Tryz.prog.underlying t = some (.slice 67)) {w : World} {B g cap : Nat} {l : List Dot} (h : Row w B (.slice (some ⟨g, 0, none⟩) l.length cap) l) {k : Nat} (hk : k <= l.length) (ty : TypeId) :
    ∃ w', (Builtin.clear_ #[t] ty #[.slice (cutA (some ⟨g, 0, none⟩) cap k) (l.length - k) (cap - k)]).run Tryz.prog w = .ok (.tuple #[]) w' ∧ Row w' B (.slice (some ⟨g, 0, none⟩) k cap) (l.take k) ∧ Below B w w' := by
  by_cases he : l.length = k
  · subst he
    refine ⟨w, ?_, by simpa using h, Below.refl _ _⟩
    rw [Nat.sub_self]
    cases cutA (some ⟨g, 0, none⟩) cap l.length <;> simp [Builtin.clear_, run_underlying ht]
  · obtain ⟨i, hi, hz, hsz, hby⟩ := info_dot
    have hB := Row.from_ h ⟨g, 0, none⟩ rfl
    rcases h.2 with ⟨h', _⟩ | ⟨g', cap', cur, h', hb, hg, hnc, hcm, hcs, htake⟩
    · cases h'
    · cases h'
      have hc : ¬ cap = k := by omega
      have ea : cutA (some ⟨g, 0, none⟩) cap k = some ⟨g, k * 2, none⟩ := by unfold cutA; rw [if_neg hc]; simp [add_lit]
      obtain ⟨m, hm⟩ : ∃ m, l.length - k = m + 1 := ⟨l.length - k - 1, by omega⟩
      have hfit : k * 2 + 0 + (Builtin.zeroCells #[.int .i64 0, .int .i64 0] (m + 1)).toList.length <= cur.size := by
        simp [size_zeroCells, hcs]; omega
      have hone : ∀ v ∈ (Builtin.zeroCells #[.int .i64 0, .int .i64 0] (m + 1)).toList, v.oneCell' = true := by
        intro v hv
        simp only [Builtin.zeroCells, Array.toList_map, List.mem_map] at hv
        obtain ⟨i, _, rfl⟩ := hv
        rcases Nat.mod_two_eq_zero_or_one i with hm | hm <;> (simp only [List.size_toArray, List.length_cons, List.length_nil]; rw [hm]; rfl)
      have hst := run_storeCells_at Tryz.prog g (k * 2) 67 (Builtin.zeroCells #[.int .i64 0, .int .i64 0] (m + 1)).toList 0 cur w hg hfit hone
      generalize hzs : (Builtin.zeroCells #[.int .i64 0, .int .i64 0] (m + 1)).toList = zs at *
      refine ⟨w.setRow g (cur.toList.take (k * 2 + 0) ++ zs ++ cur.toList.drop (k * 2 + 0 + zs.length)).toArray, ?_, ?_, (Below.refl _ w).setRow_ g _ hB⟩
      · rw [ea, hm]
        have hz' : (zeroValue 67).run Tryz.prog w = .ok (.agg #[.int .i64 0, .int .i64 0]) w := by simp [go_sem]
        simp [Builtin.clear_, run_underlying ht, hz', Value.cells, hzs, hst]
      · have hhl := setRow_heap w g cur (cur.toList.take (k * 2 + 0) ++ zs ++ cur.toList.drop (k * 2 + 0 + zs.length)).toArray 67 (0, 0) hg
        have e : (l.take k).length = k := by rw [List.length_take]; omega
        have h2 : dcells l = dcells (l.take k) ++ dcells (l.drop k) := by rw [<- dcells_append, List.take_append_drop]
        have h3 : cur.toList.take (k * 2) = dcells (l.take k) := by
          have h4 : cur.toList.take (k * 2) = (cur.toList.take (l.length * 2)).take (k * 2) := by rw [List.take_take, Nat.min_eq_left (by omega)]
          rw [h4, htake, h2, List.take_append_of_le_length (by rw [dcells_length, e]; exact Nat.le_refl _), List.take_of_length_le (by rw [dcells_length, e]; exact Nat.le_refl _)]
        refine ⟨dcells_length _, .inr ⟨g, cap, _, by rw [e], hb, hhl, by omega, hcm, ?_, ?_⟩⟩
        · have := hfit; simp [hcs] at this ⊢; omega
        · rw [e, Nat.add_zero, h3]
          simp only [List.append_assoc]
          rw [List.take_append_of_le_length (by rw [dcells_length, e]; exact Nat.le_refl _), List.take_of_length_le (by rw [dcells_length, e]; exact Nat.le_refl _)]
end Go.Proofs.YtphhhnjeojdnkaaGreatDoor

/-
  PLAIN: sets of dots: in order, known by what is in them.
-/
namespace Go.Proofs.YtphhhnjeojdnkaaGreatDoor
open Go.RowKit
theorem less_trans {a b c : Dot} (h1 : lessD a b = true) (h2 : lessD b c = true) : lessD a c = true := by rw [lessD_iff] at *; omega
theorem less_irrefl (a : Dot) : lessD a a = false := by cases h : lessD a a with | false => rfl | true => rw [lessD_iff] at h; omega
theorem less_asymm {a b : Dot} (h : lessD a b = true) : lessD b a = false := by
  cases h2 : lessD b a with | false => rfl | true => rw [lessD_iff] at h h2; omega
theorem less_total {a b : Dot} (h1 : lessD a b = false) (h2 : lessD b a = false) : a = b := by
  have n1 : ¬ lessD a b = true := by rw [h1]; simp
  have n2 : ¬ lessD b a = true := by rw [h2]; simp
  rw [lessD_iff] at n1 n2
  apply Prod.ext <;> omega
def Ord (l : List Dot) : Prop := l.Pairwise (fun a b => lessD a b = true)
theorem isSet_ord : ∀ l : List Dot, isSet l = true ↔ Ord l
  | [] => by simp [isSet, Ord]
  | [a] => by simp [isSet, Ord]
  | a :: b :: t => by
    have ih := isSet_ord (b :: t)
    simp only [isSet, Bool.and_eq_true, ih]
    unfold Ord
    rw [List.pairwise_cons (a := a)]
    constructor
    · rintro ⟨h1, h2⟩
      refine ⟨fun x hx => ?_, h2⟩
      rcases List.mem_cons.1 hx with rfl | hx
      · exact h1
      · exact less_trans h1 ((List.pairwise_cons.1 h2).1 x hx)
    · rintro ⟨h1, h2⟩
      exact ⟨h1 b List.mem_cons_self, h2⟩
theorem ord_ext : ∀ {a b : List Dot}, Ord a -> Ord b -> (∀ d, d ∈ a ↔ d ∈ b) -> a = b
  | [], [], _, _, _ => rfl
  | [], b :: t, _, _, h => by have := (h b).2 List.mem_cons_self; cases this
  | a :: s, [], _, _, h => by have := (h a).1 List.mem_cons_self; cases this
  | a :: s, b :: t, ha, hb, h => by
    obtain ⟨ha1, ha2⟩ := List.pairwise_cons.1 ha
    obtain ⟨hb1, hb2⟩ := List.pairwise_cons.1 hb
    have e : a = b := by
      rcases List.mem_cons.1 ((h a).1 List.mem_cons_self) with e | hm
      · exact e
      · rcases List.mem_cons.1 ((h b).2 List.mem_cons_self) with e | hm2
        · exact e.symm
        · have h1 := hb1 a hm; have h2 := ha1 b hm2
          rw [less_asymm h1] at h2; cases h2
    subst e
    rw [ord_ext ha2 hb2 fun d => ⟨fun hd => ?_, fun hd => ?_⟩]
    · rcases List.mem_cons.1 ((h d).1 (List.mem_cons_of_mem _ hd)) with rfl | hm
      · have := ha1 d hd; rw [less_irrefl] at this; cases this
      · exact hm
    · rcases List.mem_cons.1 ((h d).2 (List.mem_cons_of_mem _ hd)) with rfl | hm
      · have := hb1 d hd; rw [less_irrefl] at this; cases this
      · exact hm
theorem take_cut : ∀ (d : Dot) (s : List Dot), ∀ a ∈ s.take (cutD d s), lessD a d = true
  | d, [], a, h => by simp at h
  | d, b :: t, a, h => by
    rw [cutD] at h
    split at h
    · rename_i hl
      rw [List.take_succ_cons] at h
      rcases List.mem_cons.1 h with rfl | h
      · exact hl
      · exact take_cut d t a h
    · simp at h
theorem drop_cut : ∀ (d : Dot) (s : List Dot), Ord s -> d ∉ s -> ∀ a ∈ s.drop (cutD d s), lessD d a = true
  | d, [], _, _, a, h => by simp at h
  | d, b :: t, ho, hd, a, h => by
    obtain ⟨h1, h2⟩ := List.pairwise_cons.1 ho
    rw [cutD] at h
    split at h
    · rw [List.drop_succ_cons] at h
      exact drop_cut d t h2 (fun hm => hd (List.mem_cons_of_mem _ hm)) a h
    · rename_i hl
      have hl' : lessD b d = false := by simpa using hl
      have hbd : lessD d b = true := by
        cases h3 : lessD d b with
        | true => rfl
        | false => exact absurd (less_total h3 hl') (fun e => hd (e ▸ List.mem_cons_self))
      rw [List.drop_zero] at h
      rcases List.mem_cons.1 h with rfl | h
      · exact hbd
      · exact less_trans hbd (h1 a h)
theorem mem_with {s : List Dot} {d x : Dot} : x ∈ withD s d ↔ x ∈ s ∨ x = d := by
  unfold withD
  split
  · rename_i h
    have := memD_iff.1 h
    constructor
    · exact Or.inl
    · rintro (h | rfl) <;> assumption
  · rw [List.mem_append, List.mem_cons]
    conv => rhs; rw [<- List.take_append_drop (cutD d s) s, List.mem_append]
    constructor
    · rintro (h | h | h)
      · exact .inl (.inl h)
      · exact .inr h
      · exact .inl (.inr h)
    · rintro ((h | h) | h)
      · exact .inl h
      · exact .inr (.inr h)
      · exact .inr (.inl h)
theorem ord_with {s : List Dot} (d : Dot) (h : Ord s) : Ord (withD s d) := by
  unfold withD
  split
  · exact h
  · rename_i hm
    have hd : d ∉ s := fun hd => hm (memD_iff.2 hd)
    have h1 := take_cut d s
    have h2 := drop_cut d s h hd
    unfold Ord
    rw [List.pairwise_append, List.pairwise_cons]
    have h3 : Ord (s.take (cutD d s) ++ s.drop (cutD d s)) := by rw [List.take_append_drop]; exact h
    unfold Ord at h3
    rw [List.pairwise_append] at h3
    refine ⟨h3.1, ⟨h2, h3.2.1⟩, fun a ha b hb => ?_⟩
    rcases List.mem_cons.1 hb with rfl | hb
    · exact h1 a ha
    · exact less_trans (h1 a ha) (h2 b hb)
theorem fold_with : ∀ (l s : List Dot), Ord s -> Ord (l.foldl withD s) ∧ ∀ x, x ∈ l.foldl withD s ↔ x ∈ s ∨ x ∈ l
  | [], s, h => ⟨h, fun x => by simp⟩
  | a :: t, s, h => by
    obtain ⟨h1, h2⟩ := fold_with t (withD s a) (ord_with a h)
    refine ⟨h1, fun x => ?_⟩
    rw [List.foldl_cons, h2, mem_with, List.mem_cons, or_assoc]
theorem ord_union (a b : List Dot) : Ord (unionD a b) := (fold_with b _ (fold_with a [] List.Pairwise.nil).1).1
theorem mem_union {a b : List Dot} {x : Dot} : x ∈ unionD a b ↔ x ∈ a ∨ x ∈ b := by
  unfold unionD
  rw [(fold_with b _ (fold_with a [] List.Pairwise.nil).1).2, (fold_with a [] List.Pairwise.nil).2]; simp
theorem comp_ord : ∀ (l acc : List Dot), Ord acc -> (∀ a ∈ acc, ∀ b ∈ l, lessD b a = false) -> l.Pairwise (fun a b => lessD b a = false) -> Ord (l.foldl compG acc) ∧ ∀ x, x ∈ l.foldl compG acc ↔ x ∈ acc ∨ x ∈ l
  | [], acc, h, _, _ => ⟨h, fun x => by simp⟩
  | d :: t, acc, h, h2, h3 => by
    obtain ⟨h4, h5⟩ := List.pairwise_cons.1 h3
    rw [List.foldl_cons]
    by_cases hl : acc.getLast? = some d
    · have e : compG acc d = acc := by unfold compG; rw [if_pos hl]
      have hm : d ∈ acc := List.mem_of_getLast? hl
      rw [e]
      obtain ⟨i1, i2⟩ := comp_ord t acc h (fun a ha b hb => h2 a ha b (List.mem_cons_of_mem _ hb)) h5
      refine ⟨i1, fun x => ?_⟩
      rw [i2, List.mem_cons]
      constructor
      · rintro (h | h) <;> simp [h]
      · rintro (h | rfl | h)
        · exact .inl h
        · exact .inl hm
        · exact .inr h
    · have e : compG acc d = acc ++ [d] := by unfold compG; rw [if_neg hl]
      have hall : ∀ a ∈ acc, lessD a d = true := by
        intro a ha
        have hz : lessD d a = false := h2 a ha d List.mem_cons_self
        cases h6 : lessD a d with
        | true => rfl
        | false =>
          have ead := less_total h6 hz
          subst ead
          exfalso
          obtain ⟨ini, z, hac⟩ : ∃ ini z, acc = ini ++ [z] := by
            rcases List.eq_nil_or_concat acc with h | ⟨i, z, h⟩
            · rw [h] at ha; cases ha
            · exact ⟨i, z, by simpa using h⟩
          subst hac
          rw [List.getLast?_concat] at hl
          rcases List.mem_append.1 ha with hi | hi
          · unfold Ord at h
            rw [List.pairwise_append] at h
            have h7 := h.2.2 a hi z (by simp)
            have h8 := h2 z (by simp) a List.mem_cons_self
            rw [h8] at h7; cases h7
          · simp at hi; subst hi; exact hl rfl
      have hacc : Ord (acc ++ [d]) := by
        unfold Ord at h ⊢
        rw [List.pairwise_append]
        exact ⟨h, by simp, fun a ha b hb => by simp at hb; subst hb; exact hall a ha⟩
      rw [e]
      obtain ⟨i1, i2⟩ := comp_ord t (acc ++ [d]) hacc (fun a ha b hb => by
        rcases List.mem_append.1 ha with h' | h'
        · exact h2 a h' b (List.mem_cons_of_mem _ hb)
        · simp at h'; subst h'; exact h4 b hb) h5
      refine ⟨i1, fun x => ?_⟩
      rw [i2, List.mem_append, List.mem_singleton, List.mem_cons, or_assoc]
theorem comp_sorted {l l' : List Dot} (h : SortOf lessD l l') : compL l' = unionD l [] := by
  obtain ⟨h1, h2⟩ := comp_ord l' [] List.Pairwise.nil (fun a ha => by cases ha) h.2
  refine ord_ext h1 (ord_union _ _) fun d => ?_
  show d ∈ l'.foldl compG [] ↔ _
  rw [h2, mem_union]
  simp [h.1.mem_iff]
end Go.Proofs.YtphhhnjeojdnkaaGreatDoor

/-
  The reference's Size and Add.
-/
namespace Go.Proofs.YtphhhnjeojdnkaaGreatDoor
open Go.RowKit
section
variable {ops : List Oper} {Fs : List VT} {w0 : World} {a0 : Act} {i : Nat} {d : Option Tmp} {ty : TypeId} {pos : String} {after : Array Edge} {g : Option (Nat × Bool)}
theorem Ob.mkConD {x y : Operand} {A : Option Addr} {n ca : Nat} {l k : List Dot} (hw : Wanted ops Fs w0 a0 i ⟨d, .build 60 #[(0, x), (1, y)], ty, pos, after, g⟩) (hx : Has ops Fs w0 a0 i ⟨d, .build 60 #[(0, x), (1, y)], ty, pos, after, g⟩ x (Is (.slice A n ca))) (hy : Has ops Fs w0 a0 i ⟨d, .build 60 #[(0, x), (1, y)], ty, pos, after, g⟩ y (IsDots k))
    (h : ∀ w, Below w0.heap.size w0 w -> Dots w A n ca l) : Ob Tryz.prog ops Fs w0 a0 i ⟨d, .build 60 #[(0, x), (1, y)], ty, pos, after, g⟩ (IsCon (l, k)) :=
  Ob.stay hw fun a w cx => by
    have e1 : a.eval x = .slice A n ca := hx a w cx
    obtain ⟨B, m, cb, e2, d2⟩ := hy a w cx
    refine ⟨.agg #[.slice A n ca, .slice B m cb], ?_, A, n, ca, B, m, cb, rfl, h w cx.le, d2⟩
    generalize a.eval = ρ at e1 e2
    simp [execOp, e1, e2, go_sem]
end
def NoInt (w : World) (N : Nat) : Prop := ∀ o x, w.cell? ⟨N, o, none⟩ ≠ some (.int .i64 x)
theorem NoInt.mono {w w' : World} {N : Nat} (h : NoInt w N) (hb : Below w.heap.size w w') (hN : N < w.heap.size) : NoInt w' N := fun o x e => h o x ((hb.cell (p := ⟨N, o, none⟩) hN).symm.trans e)
theorem NoInt.box (w : World) (A B : Option Addr) (n ca m cb : Nat) : NoInt (w.alloc (conBox A n ca B m cb)) w.heap.size := by
  intro o x h
  match o with
  | 0 => simp [go_sem] at h
  | 1 => simp [go_sem] at h
  | o + 2 =>
    have e := heap_alloc_new w (conBox A n ca B m cb)
    unfold World.cell? at h
    simp only [e] at h
    simp at h
theorem NoInt.box2 (w : World) (A B C D : Option Addr) (n ca m cb k ck j cj : Nat) : NoInt ((w.alloc (conBox A n ca B m cb)).alloc (conBox C k ck D j cj)) (w.heap.size + 1) := by
  have := NoInt.box (w.alloc (conBox A n ca B m cb)) C D k ck j cj
  simpa using this
theorem Dots.noInt {w : World} {A : Option Addr} {n c N : Nat} {l : List Dot} (h : Dots w A n c l) (hN : NoInt w N) : Off (· ≠ N) A l := by
  intro hl a ha e
  cases l with
  | nil => exact hl rfl
  | cons d t =>
    obtain ⟨b, o, e', _, h1, _⟩ := h.cell 0 d rfl
    rw [ha] at e'; cases e'
    simp only at e; subst e
    exact hN _ _ h1
theorem entersUnion : Enters Tryz.prog 115 := enters_of Tryz.func115 (by kernel_rfl) rfl
theorem entersCompactR : Enters Tryz.prog 114 := enters_of Tryz.func114 (by kernel_rfl) rfl
def addC (c : Ctx) (l : List Dot) : Ctx := compactC (c.1, unionD c.2 l)
theorem foldWith_length : ∀ (b a : List Dot), (b.foldl withD a).length <= a.length + b.length
  | [], a => Nat.le_refl _
  | d :: t, a => by
    have := foldWith_length t (withD a d)
    have := withD_length a d
    simp only [List.foldl_cons, List.length_cons]; omega
theorem unionD_length (a b : List Dot) : (unionD a b).length <= a.length + b.length := by
  unfold unionD
  have := foldWith_length b (a.foldl withD [])
  have := foldWith_length a []
  simp at *; omega
theorem radd (A B C : Option Addr) (n ca m cb k ck : Nat) (c : Ctx) (l : List Dot) (w : World) (h : Con w A n ca B m cb c) (hl : Dots w C k ck l) (hs : Small (n + (m + k))) (hv : validC (c.1, unionD c.2 l) = true) (hp : compC (passC (c.1, unionD c.2 l)) = true) :
    Calls Tryz.prog 83 #[.agg #[.slice A n ca, .slice B m cb], .slice C k ck] w (Ret w (IsCon (addC c l))) := by
  have hb0 : Below w.heap.size w ((w.alloc (conBox A n ca B m cb)).alloc (conBox none 0 0 none 0 0)) := by go_grown
  have h0 := h.mono hb0
  have l0 := hl.mono hb0
  have z0 : ((w.alloc (conBox A n ca B m cb)).alloc (conBox none 0 0 none 0 0)).cell? ⟨w.heap.size, 0, none⟩ = some (.slice A n ca) := by simp [go_sem]
  have z1 : ((w.alloc (conBox A n ca B m cb)).alloc (conBox none 0 0 none 0 0)).cell? ⟨w.heap.size, 1, none⟩ = some (.slice B m cb) := by simp [go_sem]
  have y0 : ((w.alloc (conBox A n ca B m cb)).alloc (conBox none 0 0 none 0 0)).cell? ⟨w.heap.size + 1, 0, none⟩ = some (.slice none 0 0) := by simp [go_sem]
  have y1 : ((w.alloc (conBox A n ca B m cb)).alloc (conBox none 0 0 none 0 0)).cell? ⟨w.heap.size + 1, 1, none⟩ = some (.slice none 0 0) := by simp [go_sem]
  have yf : ∀ o, ((w.alloc (conBox A n ca B m cb)).alloc (conBox none 0 0 none 0 0)).frozen? ⟨w.heap.size + 1, o, none⟩ = false := fun o => by simp [go_sem]
  have hsm : Small (m + k) := by have := hs.out; unfold Small; omega
  have hsc : ∀ (A' B' : Option Addr) (n' ca' m' cb' : Nat) (w' : World), Con w' A' n' ca' B' m' cb' (c.1, unionD c.2 l) -> Small (n' + m') := fun A' B' n' ca' m' cb' w' hc => by
    have e1 := hc.v.len; have e2 := hc.k.len; have := unionD_length c.2 l; have := h.v.len; have := h.k.len; have := hl.len; have := hs.out
    unfold Small; simp only at e1 e2; omega
  have H0 := Lib.hid h0; have L0 := Lib.hid l0; have Z0 := Lib.hid z0; have Z1 := Lib.hid z1; have Y0 := Lib.hid y0; have Y1 := Lib.hid y1; have YF := Lib.hid yf; have HB0 := Lib.hid hb0; have HV := Lib.hid hv; have HP := Lib.hid hp; have HSC := Lib.hid hsc
  have hsz : ((w.alloc (conBox A n ca B m cb)).alloc (conBox none 0 0 none 0 0)).heap.size = w.heap.size + 2 := by simp
  clear h0 l0 z0 z1 y0 y1 yf hb0 hv hp hsc h hl
  have hcall : ∀ (w1 : World) (v : Value), IsCon (c.1, unionD c.2 l) w1 v -> Calls Tryz.prog 114 #[v] w1 (Ret w1 (IsCon (compactC (c.1, unionD c.2 l)))) := by
    rintro w1 v ⟨A', n', ca', B', m', cb', rfl, hc⟩
    exact rcompactC A' B' n' ca' m' cb' _ w1 hc (HSC.out _ _ _ _ _ _ _ hc) HV.out HP.out
  have HCALL := Lib.hid hcall; clear hcall
  unfold addC
  go_enter Tryz.func83, Tryz.ntmps83
  go_wp2_with fail
  refine wp_region_MT 8 mixed (by kernel_rfl) (by kernel_rfl) ?_
  refine MDerT.step (Ob.fieldV Wanted.free Has.oldIs (fun w1 => field_con0)) ?_
  refine MDerT.step (Ob.loadV Wanted.free (Has.new 0 0) (fun w1 hb1 => load_vec hb1 Z0.out)) ?_
  refine MDerT.step (Ob.fieldV Wanted.free Has.oldIs (fun w1 => field_con1)) ?_
  refine MDerT.step (Ob.loadV Wanted.free (Has.new 2 0) (fun w1 hb1 => load_dots hb1 Z1.out)) ?_
  refine MDerT.step (Ob.move Wanted.free Has.oldIs) ?_
  refine MDerT.step (Ob.call2V Wanted.free entersUnion (Has.new 3 1) (Has.new 4 0) (fun w1 hb1 => (runion B C m cb k ck c.2 l w1 (H0.out.k.mono hb1) (L0.out.mono hb1) hsm))) ?_
  refine MDerT.step (Ob.mkConD Wanted.free (Has.new 1 4) (Has.new 5 0) (fun w1 hb1 => H0.out.v.mono hb1)) ?_
  refine MDerT.step (Ob.call1 Wanted.free entersCompactR (Has.new 6 0) (fun w1 v hb1 hv => HCALL.out w1 v hv)) ?_
  simp only [MDerT, dstsOf, List.map, EndM, List.reverse_cons, List.reverse_nil, List.nil_append, List.cons_append, List.take_succ_cons, List.take_zero, List.drop_succ_cons, List.drop_zero]
  intro wE hE
  iterate 5 (rintro _ rfl)
  rintro _ _h5
  rintro _ _h6
  rintro _ ⟨A1, n1, c1, B1, m1, d1, rfl, hcc⟩
  simp only [Act.put, List.setIfInBounds_toArray, List.set_cons_zero, List.set_cons_succ]
  have x0 := cellKeep hE Y0.out
  have x1 := cellKeep hE Y1.out
  have yf0 : wE.frozen? ⟨w.heap.size + 1, 0, none⟩ = false := (hE.frozen (p := ⟨w.heap.size + 1, 0, none⟩) (by simp)).trans (YF.out 0)
  have yf1 : wE.frozen? ⟨w.heap.size + 1, 1, none⟩ = false := (hE.frozen (p := ⟨w.heap.size + 1, 1, none⟩) (by simp)).trans (YF.out 1)
  have hz : w.heap.size + 1 < wE.heap.size := World.block_lt_of_cell? wE _ x0
  have hni : NoInt wE (w.heap.size + 1) := (NoInt.box2 w A B none none n ca m cb 0 0 0 0).mono hE (by simp)
  have o1 := hcc.v.noInt hni
  have o2 := hcc.k.noInt hni
  have s0 : (wE.setCell ⟨w.heap.size + 1, 0, none⟩ (.slice A1 n1 c1)).cell? ⟨w.heap.size + 1, 0, none⟩ = some (.slice A1 n1 c1) := cell_set x0
  have s1 : ((wE.setCell ⟨w.heap.size + 1, 0, none⟩ (.slice A1 n1 c1)).setCell ⟨w.heap.size + 1, 1, none⟩ (.slice B1 m1 d1)).cell? ⟨w.heap.size + 1, 1, none⟩ = some (.slice B1 m1 d1) := cell_set (cell_far (by simp) x1)
  have HE2 := Lib.hid hE; have HC2 := Lib.hid hcc; have O1 := Lib.hid o1; have O2 := Lib.hid o2
  clear hE hcc hni o1 o2
  go_wp2
  refine bodyPost_ret (v := .agg #[.slice A1 n1 c1, .slice B1 m1 d1]) (by simp [results, Tryz.results83, go_sem, s0, s1]) rfl ?_
  exact ⟨_, rfl, ((HB0.out.le HE2.out).setCell (p := ⟨w.heap.size + 1, 0, none⟩) (by simp) _).setCell (p := ⟨w.heap.size + 1, 1, none⟩) (by simp) _, _, _, _, _, _, _, rfl, (HC2.out.v.setO O1.out _).setO O1.out _, (HC2.out.k.setO O2.out _).setO O2.out _⟩
end Go.Proofs.YtphhhnjeojdnkaaGreatDoor

/-
  PLAIN: vectors; contexts: the pass over the cloud gives the one compact context with the same dots.
-/
namespace Go.Proofs.YtphhhnjeojdnkaaGreatDoor
open Go.RowKit
def Inc (l : List Dot) : Prop := l.Pairwise (fun a b => a.1 < b.1)
theorem incV_inc : ∀ l : List Dot, incV l = true ↔ Inc l
  | [] => by simp [incV, Inc]
  | [a] => by simp [incV, Inc]
  | a :: b :: t => by
    have ih := incV_inc (b :: t)
    simp only [incV, Bool.and_eq_true, ih, decide_eq_true_eq]
    unfold Inc
    rw [List.pairwise_cons (a := a)]
    constructor
    · rintro ⟨h1, h2⟩
      refine ⟨fun x hx => ?_, h2⟩
      rcases List.mem_cons.1 hx with rfl | hx
      · exact h1
      · exact Int.lt_trans h1 ((List.pairwise_cons.1 h2).1 x hx)
    · rintro ⟨h1, h2⟩
      exact ⟨h1 b List.mem_cons_self, h2⟩
theorem validL_mem {l : List Dot} (h : validL l = true) {d : Dot} (hd : d ∈ l) : validD d = true := by unfold validL at h; rw [List.all_eq_true] at h; exact h d hd
theorem validL_of {l : List Dot} (h : ∀ d ∈ l, validD d = true) : validL l = true := by unfold validL; rw [List.all_eq_true]; exact h
theorem validL_cons {a : Dot} {t : List Dot} (h : validL (a :: t) = true) : validD a = true ∧ validL t = true := ⟨validL_mem h List.mem_cons_self, validL_of fun _ hd => validL_mem h (List.mem_cons_of_mem _ hd)⟩
theorem getV_zero : ∀ {l : List Dot} {r : Int}, (∀ a ∈ l, a.1 ≠ r) -> getV l r = 0
  | [], _, _ => rfl
  | a :: t, r, h => by rw [getV, if_neg (h a List.mem_cons_self)]; exact getV_zero fun b hb => h b (List.mem_cons_of_mem _ hb)
theorem getV_mem : ∀ {l : List Dot} {d : Dot}, Inc l -> d ∈ l -> getV l d.1 = d.2
  | a :: t, d, hi, hd => by
    obtain ⟨h1, h2⟩ := List.pairwise_cons.1 hi
    rw [getV]
    rcases List.mem_cons.1 hd with rfl | hd
    · rw [if_pos rfl]
    · rw [if_neg (by have := h1 d hd; omega)]; exact getV_mem h2 hd
theorem getV_some : ∀ {l : List Dot} {r : Int}, getV l r ≠ 0 -> (r, getV l r) ∈ l
  | [], r, h => absurd rfl h
  | a :: t, r, h => by
    rw [getV] at h ⊢
    split
    · rename_i e
      subst e
      exact List.mem_cons_self
    · rename_i e
      rw [if_neg e] at h
      exact List.mem_cons_of_mem _ (getV_some h)
theorem inc_mem {l : List Dot} (hi : Inc l) (hv : validL l = true) (d : Dot) : d ∈ l ↔ getV l d.1 = d.2 ∧ d.2 ≠ 0 := by
  constructor
  · intro hd
    have := validD_iff.1 (validL_mem hv hd)
    exact ⟨getV_mem hi hd, by omega⟩
  · rintro ⟨h1, h2⟩
    have := getV_some (l := l) (r := d.1) (by omega)
    rw [h1] at this
    exact this
theorem inc_ext : ∀ {a b : List Dot}, Inc a -> Inc b -> (∀ d, d ∈ a ↔ d ∈ b) -> a = b
  | [], [], _, _, _ => rfl
  | [], b :: t, _, _, h => by have := (h b).2 List.mem_cons_self; cases this
  | a :: s, [], _, _, h => by have := (h a).1 List.mem_cons_self; cases this
  | a :: s, b :: t, ha, hb, h => by
    obtain ⟨ha1, ha2⟩ := List.pairwise_cons.1 ha
    obtain ⟨hb1, hb2⟩ := List.pairwise_cons.1 hb
    have e : a = b := by
      rcases List.mem_cons.1 ((h a).1 List.mem_cons_self) with e | hm
      · exact e
      · rcases List.mem_cons.1 ((h b).2 List.mem_cons_self) with e | hm2
        · exact e.symm
        · have h1 := hb1 a hm; have h2 := ha1 b hm2
          omega
    subst e
    rw [inc_ext ha2 hb2 fun d => ⟨fun hd => ?_, fun hd => ?_⟩]
    · rcases List.mem_cons.1 ((h d).1 (List.mem_cons_of_mem _ hd)) with rfl | hm
      · have := ha1 d hd; omega
      · exact hm
    · rcases List.mem_cons.1 ((h d).2 (List.mem_cons_of_mem _ hd)) with rfl | hm
      · have := hb1 d hd; omega
      · exact hm
theorem vec_ext {a b : List Dot} (ha : Inc a) (hb : Inc b) (va : validL a = true) (vb : validL b = true) (h : ∀ r, getV a r = getV b r) : a = b :=
  inc_ext ha hb fun d => by rw [inc_mem ha va, inc_mem hb vb, h]
theorem getV_filter : ∀ (l : List Dot) (d : Dot) (r : Int), r ≠ d.1 -> getV (l.filter (fun a => a.1 != d.1)) r = getV l r
  | [], _, _, _ => rfl
  | a :: t, d, r, h => by
    rw [List.filter_cons]
    have ih := getV_filter t d r h
    split
    · rw [getV, getV, ih]
    · rename_i hn
      have : a.1 = d.1 := by simpa using hn
      rw [getV, if_neg (by omega), ih]
theorem getV_raiseGo (d : Dot) : ∀ (l : List Dot) (r : Int), Inc l -> getV (raiseGo d false l) r = if r = d.1 then d.2 else getV l r
  | [], r, _ => by simp only [raiseGo, getV]; simp [getV, eq_comm]
  | a :: t, r, hi => by
    obtain ⟨h1, h2⟩ := List.pairwise_cons.1 hi
    rw [raiseGo_false]
    split
    · by_cases e : r = d.1
      · rw [getV, if_pos e.symm, if_pos e]
      · rw [getV, if_neg (fun h => e h.symm), if_neg e, getV_filter _ _ _ e]
    · rename_i hn
      rw [getV, getV_raiseGo d t r h2]
      by_cases e : r = d.1
      · rw [if_neg (by omega), if_pos e, if_pos e]
      · rw [if_neg e, if_neg e, getV]
theorem mem_raiseGo (d : Dot) : ∀ (l : List Dot) (x : Dot), x ∈ raiseGo d false l -> x = d ∨ (x ∈ l)
  | [], x, h => by simp [raiseGo] at h; exact .inl h
  | a :: t, x, h => by
    rw [raiseGo_false] at h
    split at h
    · rcases List.mem_cons.1 h with h | h
      · exact .inl h
      · exact .inr (List.mem_filter.1 h).1
    · rcases List.mem_cons.1 h with h | h
      · exact .inr (h ▸ List.mem_cons_self)
      · rcases mem_raiseGo d t x h with h | h
        · exact .inl h
        · exact .inr (List.mem_cons_of_mem _ h)
theorem inc_raiseGo (d : Dot) : ∀ (l : List Dot), Inc l -> Inc (raiseGo d false l)
  | [], _ => by simp [raiseGo, Inc]
  | a :: t, hi => by
    obtain ⟨h1, h2⟩ := List.pairwise_cons.1 hi
    rw [raiseGo_false]
    split
    · rename_i hle
      refine List.pairwise_cons.2 ⟨fun x hx => ?_, List.Pairwise.filter _ hi⟩
      obtain ⟨hx1, hx2⟩ := List.mem_filter.1 hx
      have hne : x.1 ≠ d.1 := by simpa using hx2
      rcases List.mem_cons.1 hx1 with rfl | hx1
      · omega
      · have := h1 x hx1; omega
    · rename_i hle
      refine List.pairwise_cons.2 ⟨fun x hx => ?_, inc_raiseGo d t h2⟩
      rcases mem_raiseGo d t x hx with rfl | hx
      · omega
      · exact h1 x hx
theorem inc_raise {v : List Dot} (d : Dot) (h : Inc v) : Inc (raiseV v d) := by unfold raiseV; split; exact h; exact inc_raiseGo d v h
theorem getV_raise {v : List Dot} {d : Dot} (h : Inc v) (hd : validD d = true) (r : Int) : getV (raiseV v d) r = if r = d.1 then max (getV v r) d.2 else getV v r := by
  unfold raiseV hasV
  rw [hd, Bool.true_and]
  by_cases e : r = d.1
  · subst e
    rw [if_pos rfl]
    split
    · rename_i h1; have := of_decide_eq_true h1; omega
    · rename_i h1
      rw [getV_raiseGo d v _ h, if_pos rfl]
      have : ¬ d.2 <= getV v d.1 := fun h => h1 (decide_eq_true h)
      omega
  · rw [if_neg e]
    split
    · rfl
    · rw [getV_raiseGo d v _ h, if_neg e]
def madeV (l : List Dot) : List Dot := l.foldl raiseV []
def mostI (l : List Dot) (r : Int) (m : Int) : Int := l.foldl (fun m d => if r = d.1 then max m d.2 else m) m
theorem fold_raise : ∀ (l v : List Dot), validL l = true -> Inc v -> validL v = true -> Inc (l.foldl raiseV v) ∧ validL (l.foldl raiseV v) = true ∧ ∀ r, getV (l.foldl raiseV v) r = mostI l r (getV v r)
  | [], v, _, h, h' => ⟨h, h', fun _ => rfl⟩
  | d :: t, v, hl, h, h' => by
    obtain ⟨hd, ht⟩ := validL_cons hl
    obtain ⟨i1, i2, i3⟩ := fold_raise t (raiseV v d) ht (inc_raise d h) (raiseV_validL d hd v h')
    refine ⟨i1, i2, fun r => ?_⟩
    rw [List.foldl_cons, i3, getV_raise h hd]
    rfl
theorem made_spec {l : List Dot} (hl : validL l = true) : Inc (madeV l) ∧ validL (madeV l) = true ∧ ∀ r, getV (madeV l) r = mostI l r 0 := fold_raise l [] hl List.Pairwise.nil rfl
theorem mostI_cons (a : Dot) (t : List Dot) (r m : Int) : mostI (a :: t) r m = mostI t r (if r = a.1 then max m a.2 else m) := rfl
theorem mostI_none : ∀ {l : List Dot} {r : Int}, (∀ a ∈ l, a.1 ≠ r) -> ∀ m, mostI l r m = m
  | [], _, _, _ => rfl
  | a :: t, r, h, m => by
    rw [mostI_cons, if_neg (fun e => h a List.mem_cons_self e.symm)]
    exact mostI_none (fun b hb => h b (List.mem_cons_of_mem _ hb)) m
theorem mostI_inc : ∀ {l : List Dot} {r m : Int}, Inc l -> validL l = true -> 0 <= m -> mostI l r m = max m (getV l r)
  | [], _, m, _, _, hm => by show m = max m 0; omega
  | a :: t, r, m, hi, hv, hm => by
    obtain ⟨h1, h2⟩ := List.pairwise_cons.1 hi
    obtain ⟨v1, v2⟩ := validL_cons hv
    rw [mostI_cons, getV]
    by_cases e : r = a.1
    · subst e
      rw [if_pos rfl, if_pos rfl]
      exact mostI_none (fun b hb => by have := h1 b hb; omega) _
    · rw [if_neg e, if_neg (fun h => e h.symm)]
      exact mostI_inc h2 v2 hm
theorem made_self {v : List Dot} (h : Inc v) (hv : validL v = true) : madeV v = v := by
  obtain ⟨h1, h2, h3⟩ := made_spec hv
  refine vec_ext h1 h h2 hv fun r => ?_
  rw [h3, mostI_inc h hv (Int.le_refl _)]
  have := getV_bd v r hv
  omega
def mergeV (a b : List Dot) : List Dot := b.foldl raiseV a
theorem made_append {a b : List Dot} (h : Inc a) (hv : validL a = true) : madeV (a ++ b) = mergeV a b := by
  unfold mergeV
  conv => rhs; rw [<- made_self h hv]
  unfold madeV
  rw [List.foldl_append]
theorem merge_one {v : List Dot} (d : Dot) : mergeV v [d] = raiseV v d := rfl
structure Ok (c : Ctx) : Prop where
  inc : Inc c.1
  vec : validL c.1 = true
  ord : Ord c.2
  dots : validL c.2 = true
theorem ok_iff {c : Ctx} : validC c = true ↔ Ok c := by
  unfold validC validV
  rw [Bool.and_eq_true, Bool.and_eq_true, Bool.and_eq_true, incV_inc, isSet_ord]
  exact ⟨fun ⟨⟨a, b⟩, c, d⟩ => ⟨a, b, c, d⟩, fun ⟨a, b, c, d⟩ => ⟨⟨a, b⟩, c, d⟩⟩
def In (c : Ctx) (d : Dot) : Prop := validD d = true ∧ (d.2 <= getV c.1 d.1 ∨ d ∈ c.2)
theorem in_iff {c : Ctx} {d : Dot} : hasC c d = true ↔ In c d := by
  unfold hasC hasV In
  cases h : validD d <;> simp [memD_iff]
structure Tight (c : Ctx) : Prop where
  ok : Ok c
  far : ∀ d ∈ c.2, getV c.1 d.1 + 1 < d.2
theorem tight_iff {c : Ctx} : compC c = true ↔ Tight c := by
  unfold compC
  rw [Bool.and_eq_true, ok_iff, Bool.not_eq_true', List.any_eq_false]
  constructor
  · rintro ⟨a, b⟩
    refine ⟨a, fun d hd => ?_⟩
    have := b d hd
    unfold nearD at this
    have h : ¬ d.2 <= getV c.1 d.1 + 1 := fun h => this (decide_eq_true h)
    omega
  · rintro ⟨a, b⟩
    refine ⟨a, fun d hd h => ?_⟩
    have := b d hd
    unfold nearD at h
    have := of_decide_eq_true h
    omega
structure Mid (c s : Ctx) (l : List Dot) : Prop where
  inc : Inc s.1
  vec : validL s.1 = true
  ord : Ord (s.2 ++ l)
  dots : validL (s.2 ++ l) = true
  far : ∀ d ∈ s.2, getV s.1 d.1 + 1 < d.2
  same : ∀ d, In (s.1, s.2 ++ l) d ↔ In c d
  old : ∀ d ∈ l, hasV s.1 d = hasV c.1 d
theorem hasV_valid {v : List Dot} {d : Dot} (h : validD d = true) : hasV v d = true ↔ d.2 <= getV v d.1 := by unfold hasV; rw [h]; simp
theorem Mid.next {c s : Ctx} {d : Dot} {t : List Dot} (h : Mid c s (d :: t)) : Mid c (stepC s d) t := by
  have hd : validD d = true := validL_mem h.dots (List.mem_append_right _ List.mem_cons_self)
  have hord := h.ord
  unfold Ord at hord
  rw [List.pairwise_append, List.pairwise_cons] at hord
  obtain ⟨o1, ⟨o2, o3⟩, o4⟩ := hord
  have hsub : (s.2 ++ t).Sublist (s.2 ++ d :: t) := List.Sublist.append_left (List.sublist_cons_self d t) _
  unfold stepC
  by_cases h1 : hasV s.1 d = true
  · rw [if_pos h1]
    refine ⟨h.inc, h.vec, List.Pairwise.sublist hsub h.ord, validL_of fun x hx => validL_mem h.dots (hsub.subset hx), h.far, fun x => ?_, fun x hx => h.old x (List.mem_cons_of_mem _ hx)⟩
    rw [<- h.same]
    unfold In
    refine and_congr_right fun hx => ?_
    simp only [List.mem_append, List.mem_cons]
    constructor
    · rintro (h | h | h)
      · exact .inl h
      · exact .inr (.inl h)
      · exact .inr (.inr (.inr h))
    · rintro (h' | h' | rfl | h')
      · exact .inl h'
      · exact .inr (.inl h')
      · exact .inl ((hasV_valid hd).1 h1)
      · exact .inr (.inr h')
  · rw [if_neg h1]
    have hgt : ¬ d.2 <= getV s.1 d.1 := fun h => h1 ((hasV_valid hd).2 h)
    by_cases h2 : d.2 = getV s.1 d.1 + 1
    · rw [if_pos (by simpa using h2)]
      have hg := getV_raise (d := d) h.inc hd
      have hgd : getV (raiseV s.1 d) d.1 = d.2 := by rw [hg, if_pos rfl]; omega
      refine ⟨inc_raise d h.inc, raiseV_validL d hd _ h.vec, List.Pairwise.sublist hsub h.ord, validL_of fun x hx => validL_mem h.dots (hsub.subset hx), fun x hx => ?_, fun x => ?_, fun x hx => ?_⟩
      · show getV (raiseV s.1 d) x.1 + 1 < x.2
        rw [hg]
        have hf := h.far x hx
        by_cases e : x.1 = d.1
        · exfalso
          have hl := lessD_iff.1 (o4 x hx d List.mem_cons_self)
          rw [e] at hf
          omega
        · rw [if_neg e]; exact hf
      · rw [<- h.same]
        unfold In
        refine and_congr_right fun hx => ?_
        show x.2 <= getV (raiseV s.1 d) x.1 ∨ x ∈ s.2 ++ t ↔ x.2 <= getV s.1 x.1 ∨ x ∈ s.2 ++ d :: t
        rw [hg]
        simp only [List.mem_append, List.mem_cons]
        by_cases e : x.1 = d.1
        · rw [if_pos e]
          constructor
          · rintro (h' | h' | h')
            · by_cases e2 : x.2 = d.2
              · exact .inr (.inr (.inl (Prod.ext e e2)))
              · rw [e] at h' ⊢; exact .inl (by omega)
            · exact .inr (.inl h')
            · exact .inr (.inr (.inr h'))
          · rintro (h' | h' | rfl | h')
            · exact .inl (by omega)
            · exact .inr (.inl h')
            · exact .inl (by omega)
            · exact .inr (.inr h')
        · rw [if_neg e]
          have hne : x ≠ d := fun h => e (by rw [h])
          simp [hne]
      · show hasV (raiseV s.1 d) x = _
        rw [<- h.old x (List.mem_cons_of_mem _ hx)]
        have hl := lessD_iff.1 (o2 x hx)
        have hxv : validD x = true := validL_mem h.dots (List.mem_append_right _ (List.mem_cons_of_mem _ hx))
        unfold hasV
        rw [hg]
        by_cases e : x.1 = d.1
        · rw [if_pos e, e]
          have a1 : ¬ x.2 <= max (getV s.1 d.1) d.2 := by omega
          have a2 : ¬ x.2 <= getV s.1 d.1 := by omega
          rw [decide_eq_false a1, decide_eq_false a2]
        · rw [if_neg e]
    · rw [if_neg (by simpa using h2)]
      have e : s.2 ++ [d] ++ t = s.2 ++ d :: t := by simp
      refine ⟨h.inc, h.vec, by show Ord (s.2 ++ [d] ++ t); rw [e]; exact h.ord, by show validL (s.2 ++ [d] ++ t) = true; rw [e]; exact h.dots, fun x hx => ?_, fun x => by show In (s.1, s.2 ++ [d] ++ t) x ↔ _; rw [e]; exact h.same x, fun x hx => h.old x (List.mem_cons_of_mem _ hx)⟩
      rcases List.mem_append.1 hx with hx | hx
      · exact h.far x hx
      · obtain rfl : x = d := by simpa using hx
        show getV s.1 x.1 + 1 < x.2
        omega
theorem Mid.start {c : Ctx} (h : Ok c) : Mid c (c.1, []) c.2 := ⟨h.inc, h.vec, by simpa using h.ord, by simpa using h.dots, (fun d hd => nomatch hd), (fun d => by simp), fun _ _ => rfl⟩
theorem Mid.fold {c : Ctx} : ∀ {l : List Dot} {s : Ctx}, Mid c s l -> Mid c (l.foldl stepC s) []
  | [], _, h => h
  | d :: t, s, h => Mid.fold (l := t) (s := stepC s d) h.next
theorem Mid.tight {c s : Ctx} (h : Mid c s []) : Tight s ∧ ∀ d, In s d ↔ In c d := by
  have ho := h.ord; have hd := h.dots; have hs := h.same
  rw [List.append_nil] at ho hd hs
  exact ⟨⟨⟨h.inc, h.vec, ho, hd⟩, h.far⟩, hs⟩
theorem pass_spec {c : Ctx} (h : Ok c) : Tight (passC c) ∧ ∀ d, In (passC c) d ↔ In c d := (Mid.start h).fold.tight
theorem pass_comp {c : Ctx} (h : validC c = true) : compC (passC c) = true := tight_iff.2 (pass_spec (ok_iff.1 h)).1
theorem fold_far : ∀ (l : List Dot) (v k : List Dot), (∀ d ∈ l, getV v d.1 + 1 < d.2) -> l.foldl stepC (v, k) = (v, k ++ l)
  | [], v, k, _ => by simp
  | d :: t, v, k, h => by
    have hd := h d List.mem_cons_self
    have e : stepC (v, k) d = (v, k ++ [d]) := by
      unfold stepC
      have h1 : ¬ hasV v d = true := by
        unfold hasV; rw [Bool.and_eq_true]; rintro ⟨_, h⟩; have := of_decide_eq_true h; omega
      rw [if_neg h1, if_neg (by simp; omega)]
    rw [List.foldl_cons, e, fold_far t v _ fun x hx => h x (List.mem_cons_of_mem _ hx), List.append_assoc]
    rfl
theorem pass_tight {c : Ctx} (h : Tight c) : passC c = c := by
  unfold passC
  rw [fold_far _ _ _ h.far]
  rfl
theorem compact_pass {c : Ctx} : compactC c = passC c := by
  unfold compactC
  split
  · rename_i h; rw [pass_tight (tight_iff.1 h)]
  · rfl
end Go.Proofs.YtphhhnjeojdnkaaGreatDoor

/-
  PLAIN: how many dots; what is missing; more dots; both of two; dots in any order.
-/
namespace Go.Proofs.YtphhhnjeojdnkaaGreatDoor
open Go.RowKit
theorem fold_miss (c : Ctx) : ∀ (l s : List Dot), Ord s -> Ord (l.foldl (fun acc d => if hasC c d then acc else withD acc d) s) ∧ ∀ x, x ∈ l.foldl (fun acc d => if hasC c d then acc else withD acc d) s ↔ x ∈ s ∨ (x ∈ l ∧ hasC c x = false)
  | [], s, h => ⟨h, fun x => by simp⟩
  | a :: t, s, h => by
    rw [List.foldl_cons]
    cases hh : hasC c a with
    | true =>
      obtain ⟨h1, h2⟩ := fold_miss c t s h
      refine ⟨h1, fun x => ?_⟩
      rw [if_pos rfl, h2, List.mem_cons]
      constructor
      · rintro (h | ⟨h, h'⟩)
        · exact .inl h
        · exact .inr ⟨.inr h, h'⟩
      · rintro (h | ⟨rfl | h, h'⟩)
        · exact .inl h
        · rw [hh] at h'; cases h'
        · exact .inr ⟨h, h'⟩
    | false =>
      obtain ⟨h1, h2⟩ := fold_miss c t (withD s a) (ord_with a h)
      rw [if_neg (by simp)]
      refine ⟨h1, fun x => ?_⟩
      rw [h2, mem_with, List.mem_cons]
      constructor
      · rintro ((h | rfl) | ⟨h, h'⟩)
        · exact .inl h
        · exact .inr ⟨.inl rfl, hh⟩
        · exact .inr ⟨.inr h, h'⟩
      · rintro (h | ⟨rfl | h, h'⟩)
        · exact .inl (.inl h)
        · exact .inl (.inr rfl)
        · exact .inr ⟨h, h'⟩
theorem miss_filter (c : Ctx) (l : List Dot) : (unionD l []).filter (fun d => !hasC c d) = missC c l := by
  obtain ⟨h1, h2⟩ := fold_miss c l [] List.Pairwise.nil
  refine ord_ext (List.Pairwise.filter _ (ord_union _ _)) h1 fun d => ?_
  show _ ↔ d ∈ l.foldl _ []
  rw [h2, List.mem_filter, mem_union]
  simp
theorem miss_none {c : Ctx} {l : List Dot} (h : ∀ d ∈ l, In c d) : missC c l = [] := by
  rw [<- miss_filter, List.filter_eq_nil_iff]
  intro d hd
  have := mem_union.1 hd
  simp only [List.not_mem_nil, or_false] at this
  simp [in_iff.2 (h d this)]
theorem ok_nil : Ok ([], []) := ⟨List.Pairwise.nil, rfl, List.Pairwise.nil, rfl⟩
theorem valid_union {a b : List Dot} (ha : validL a = true) (hb : validL b = true) : validL (unionD a b) = true := validL_of fun d hd => by
  rcases mem_union.1 hd with h | h
  · exact validL_mem ha h
  · exact validL_mem hb h
theorem ok_add {c : Ctx} {l : List Dot} (h : Ok c) (hl : validL l = true) : Ok (c.1, unionD c.2 l) := ⟨h.inc, h.vec, ord_union _ _, valid_union h.dots hl⟩
theorem in_add {c : Ctx} {l : List Dot} (hl : validL l = true) (d : Dot) : In (c.1, unionD c.2 l) d ↔ In c d ∨ d ∈ l := by
  unfold In
  show validD d = true ∧ (d.2 <= getV c.1 d.1 ∨ d ∈ unionD c.2 l) ↔ _
  rw [mem_union]
  constructor
  · rintro ⟨h, h' | h' | h'⟩
    · exact .inl ⟨h, .inl h'⟩
    · exact .inl ⟨h, .inr h'⟩
    · exact .inr h'
  · rintro (⟨h, h' | h'⟩ | h')
    · exact ⟨h, .inl h'⟩
    · exact ⟨h, .inr (.inl h')⟩
    · exact ⟨validL_mem hl h', .inr (.inr h')⟩
theorem add_spec {c : Ctx} {l : List Dot} (h : Ok c) (hl : validL l = true) : Tight (addC c l) ∧ ∀ d, In (addC c l) d ↔ In c d ∨ d ∈ l := by
  unfold addC
  rw [compact_pass]
  obtain ⟨h1, h2⟩ := pass_spec (ok_add h hl)
  exact ⟨h1, fun d => by rw [h2, in_add hl]⟩
theorem orders_miss {c : Ctx} {l : List Dot} (h : Ok c) (hl : validL l = true) : missC (addC c l) l = [] := miss_none fun d hd => ((add_spec h hl).2 d).2 (.inr hd)
end Go.Proofs.YtphhhnjeojdnkaaGreatDoor

/-
  slices.Compact on a row of the call's own.
-/
namespace Go.Proofs.YtphhhnjeojdnkaaGreatDoor
open Go.RowKit
theorem dot_eql {x y u v : Int} {a c : Operand} {w : World} (r : Bool) (h : deq (x, y) (u, v) = r) : (eqGuard .eql 67 a c (.agg #[.int .i64 x, .int .i64 y]) (.agg #[.int .i64 u, .int .i64 v])).run Tryz.prog w = .ok () w ∧ (Go.binOp .eql 67 (.agg #[.int .i64 x, .int .i64 y]) (.agg #[.int .i64 u, .int .i64 v])).run Tryz.prog w = .ok (.bool r) w := ⟨by simp [go_sem], by rw [<- h]; exact run_eql_dot x y u v w⟩
theorem dot_neq {x y u v : Int} {a c : Operand} {w : World} (r : Bool) (h : deq (x, y) (u, v) = r) : (eqGuard .neq 67 a c (.agg #[.int .i64 x, .int .i64 y]) (.agg #[.int .i64 u, .int .i64 v])).run Tryz.prog w = .ok () w ∧ (Go.binOp .neq 67 (.agg #[.int .i64 x, .int .i64 y]) (.agg #[.int .i64 u, .int .i64 v])).run Tryz.prog w = .ok (.bool !r) w := ⟨by simp [go_sem], by rw [<- h]; exact run_neq_dot x y u v w⟩
def RetOwn (B : Nat) (l : List Dot) (w : World) (e : Ending) (w' : World) : Prop := ∃ v, e = .returned v ∧ Below B w w' ∧ Row w' B v l
def ScanRel (w : World) (n : Nat) (l : List Dot) (i : Value) (wr : World) : Prop :=
  ∃ k : Nat, i = .int .i64 k ∧ 1 <= k ∧ k <= n ∧ Below w.heap.size w wr ∧ compL (l.take k) = l.take k
def PackRel (B : Nat) (v : Value) (w : World) (n k0 : Nat) (l : List Dot) (i j : Value) (wr : World) : Prop :=
  ∃ (k m : Nat) (l' : List Dot), i = .int .i64 k ∧ j = .int .i64 m ∧ 1 <= m ∧ 1 <= k ∧ k < k0 + m ∧ k0 + m <= n ∧ Below B w wr ∧ Row wr B v l' ∧ l'.length = l.length ∧ l'.drop k = l.drop k ∧ l'.take k = compL (l.take (k0 + m))
theorem drop_get {l l' : List Dot} {k j : Nat} (h : l'.drop k = l.drop k) (hj : k <= j) : l'[j]? = l[j]? := by
  have h1 : (l'.drop k)[j - k]? = (l.drop k)[j - k]? := by rw [h]
  rw [List.getElem?_drop, List.getElem?_drop, show k + (j - k) = j by omega] at h1
  exact h1
theorem dcompact_row (B g cap : Nat) (l : List Dot) (w : World) (h : Row w B (.slice (some ⟨g, 0, none⟩) l.length cap) l) (hs : Small l.length) (h2 : 2 <= l.length) :
    Calls Tryz.prog 178 #[.slice (some ⟨g, 0, none⟩) l.length cap] w (RetOwn B (compL l) w) := by
  obtain ⟨A, c, eA, hd⟩ := Row.dots h
  obtain ⟨rfl, rfl⟩ : A = some ⟨g, 0, none⟩ ∧ c = cap := by cases eA; exact ⟨rfl, rfl⟩
  clear eA
  have hcap := hd.cap
  have hmx := hd.big
  have hB : B <= g := Row.from_ h ⟨g, 0, none⟩ rfl
  have hgz : g < w.heap.size := (Row.holds h).2
  have hs9 := hs.out
  obtain ⟨n, hn⟩ : ∃ n, n = l.length := ⟨_, rfl⟩
  rw [<- hn] at hs h2 hcap hmx hd h hs9 ⊢
  have HD := Lib.hid hd; have HN := Lib.hid hn; have H := Lib.hid h
  clear hd hn h
  go_enter Tryz.func178, Tryz.ntmps178
  go_wp2
  go_loopw [3] (fun i wr => ScanRel w n l i wr) (fun i _ => n - (intOf i).toNat)
  case atStart => exact ⟨1, rfl, Nat.le_refl _, by omega, Below.refl _ _, compL_one (by rw [List.length_take]; omega)⟩
  case round =>
    obtain ⟨k, rfl, hk1, hk, hb, hc⟩ := hrel
    have HC := Lib.hid hc; clear hc
    by_cases hlt : k < n
    · obtain ⟨b, o, p, q, e, hbk, e1, d1, c1, c2⟩ := (HD.out.mono hb).at_ (k := k) hlt
      obtain ⟨rfl, rfl⟩ : g = b ∧ 0 = o := by simpa using e
      obtain ⟨b', o', u, v, e', hbk', e2, d2, c3, c4⟩ := (HD.out.mono hb).at_ (k := k - 1) (by omega)
      obtain ⟨rfl, rfl⟩ : g = b' ∧ 0 = o' := by simpa using e'
      obtain ⟨j, rfl⟩ : ∃ j, k = j + 1 := ⟨k - 1, by omega⟩
      simp only [Nat.add_sub_cancel] at e2 d2 c3 c4
      have hst := compL_step e2 e1
      have C1 := Lib.hid c1; have C2 := Lib.hid c2; have C3 := Lib.hid c3; have C4 := Lib.hid c4; have ST := Lib.hid hst; have E1 := Lib.hid e1; have E2 := Lib.hid e2
      clear c1 c2 c3 c4 hst e1 e2 d1 d2 e e'
      have hj9 : j + 1 <= 9223372036854775807 := by omega
      cases hq : deq (p, q) (u, v) with
      | false =>
        have HQ := Lib.hid hq; clear hq
        go_wp2_with fail
        refine wp_region_M mixed (by kernel_rfl) ?_
        refine MDerR.step (Ob.move Wanted.free Has.oldIs) ?_
        refine MDerR.step (Ob.move Wanted.free Has.oldIs) ?_
        refine MDerR.step (Ob.indexV Wanted.free (Has.new 0 1) (Has.new 1 0) (fun w1 => index_dots hlt)) ?_
        refine MDerR.step (Ob.loadV Wanted.free (Has.new 2 0) (fun w1 hb1 => load_dot hb1 C1.out C2.out)) ?_
        refine MDerR.step (Ob.move Wanted.free Has.oldIs) ?_
        refine MDerR.step (Ob.move Wanted.free Has.oldIs) ?_
        refine MDerR.step (Ob.binV Wanted.free (Has.new 5 0) (Has.cst _) (fun w1 => sub_one hj9)) ?_
        refine MDerR.step (Ob.indexV Wanted.free (Has.new 4 2) (Has.new 6 0) (fun w1 => index_dots (by omega))) ?_
        refine MDerR.step (Ob.loadV Wanted.free (Has.new 7 0) (fun w1 hb1 => load_dot hb1 C3.out C4.out)) ?_
        refine MDerR.step (Ob.binV Wanted.free (Has.new 3 5) (Has.new 8 0) (fun w1 => dot_eql false HQ.out)) ?_
        simp only [MDerR, dstsOf, List.map, EndM, List.reverse_cons, List.reverse_nil, List.nil_append, List.cons_append]
        intro wE hE
        iterate 10 (rintro _ rfl)
        simp only [Act.put, List.setIfInBounds_toArray, List.set_cons_zero, List.set_cons_succ]
        go_wp2
        go_roundw
        case rel => exact ⟨j + 1 + 1, by simp, by omega, hlt, hb.le hE, by rw [ST.out, if_neg (deq_not.1 HQ.out), HC.out, take_snoc E1.out]⟩
        case measure => simp [intOf]; omega
      | true =>
        have HQ := Lib.hid hq; clear hq
        go_wp2_with fail
        refine wp_region_M mixed (by kernel_rfl) ?_
        refine MDerR.step (Ob.move Wanted.free Has.oldIs) ?_
        refine MDerR.step (Ob.move Wanted.free Has.oldIs) ?_
        refine MDerR.step (Ob.indexV Wanted.free (Has.new 0 1) (Has.new 1 0) (fun w1 => index_dots hlt)) ?_
        refine MDerR.step (Ob.loadV Wanted.free (Has.new 2 0) (fun w1 hb1 => load_dot hb1 C1.out C2.out)) ?_
        refine MDerR.step (Ob.move Wanted.free Has.oldIs) ?_
        refine MDerR.step (Ob.move Wanted.free Has.oldIs) ?_
        refine MDerR.step (Ob.binV Wanted.free (Has.new 5 0) (Has.cst _) (fun w1 => sub_one hj9)) ?_
        refine MDerR.step (Ob.indexV Wanted.free (Has.new 4 2) (Has.new 6 0) (fun w1 => index_dots (by omega))) ?_
        refine MDerR.step (Ob.loadV Wanted.free (Has.new 7 0) (fun w1 hb1 => load_dot hb1 C3.out C4.out)) ?_
        refine MDerR.step (Ob.binV Wanted.free (Has.new 3 5) (Has.new 8 0) (fun w1 => dot_eql true HQ.out)) ?_
        simp only [MDerR, dstsOf, List.map, EndM, List.reverse_cons, List.reverse_nil, List.nil_append, List.cons_append]
        intro wE hE
        iterate 10 (rintro _ rfl)
        simp only [Act.put, List.setIfInBounds_toArray, List.set_cons_zero, List.set_cons_succ]
        have hrow := Row.mono (Row.mono H.out hb) hE
        have hbel := (hb.le hE).mono (B' := B) (by omega)
        have hsl := fun w => slice_from_dots (w := w) (A := some ⟨g, 0, none⟩) (n := n) (c := c) (k := j + 1) (Nat.le_of_lt hlt) hcap
        have hcut : cutA (some ⟨g, 0, none⟩) c (j + 1) = some ⟨g, (j + 1) * 2, none⟩ := by unfold cutA; rw [if_neg (by omega)]; simp [add_lit]
        have hst : compL (l.take (j + 1 + 1)) = l.take (j + 1) := by rw [ST.out, if_pos (deq_iff.1 HQ.out), HC.out]
        have HROW := Lib.hid hrow; have HBEL := Lib.hid hbel; have HST := Lib.hid hst; have HCUT := Lib.hid hcut
        clear hrow hbel hst hE hb
        rw [hcut] at hsl
        clear hcut C1 C2 C3 C4 HQ ST HC E1 E2
        generalize wE = W at *
        go_wp2
        go_loopw [3, 5] (fun i m w2 => PackRel B (.slice (some ⟨g, 0, none⟩) n c) W n (j + 1) l i m w2) (fun _ m _ => n - (intOf m).toNat)
        case atStart => exact ⟨j + 1, 1, l, rfl, rfl, Nat.le_refl _, by omega, by omega, by omega, Below.refl _ _, HROW.out, rfl, rfl, HST.out.symm⟩
        case round =>
          obtain ⟨k, m, l', rfl, rfl, hm1, hk1, hkm, hmn, hb, hr, hl', hdr, htk⟩ := hrel
          have HR := Lib.hid hr; have HDR := Lib.hid hdr; have HTK := Lib.hid htk; have HB2 := Lib.hid hb; have HL' := Lib.hid hl'
          have hd' : Dots wr (some ⟨g, 0, none⟩) n c l' := by
            obtain ⟨A, c', e, hd'⟩ := Row.dots hr
            cases e; exact hd'
          have hds := hd'.drop (k := j + 1) (Nat.le_of_lt hlt)
          rw [HCUT.out] at hds
          have HDS := Lib.hid hds
          clear hr hdr htk hb hl' hds hd'
          by_cases hlm : m < n - (j + 1)
          · obtain ⟨b, o, p, q, e, hbk, e1, d1, c1, c2⟩ := HDS.out.at_ (k := m) hlm
            obtain ⟨rfl, rfl⟩ : g = b ∧ (j + 1) * 2 = o := by simpa using e
            obtain ⟨m', rfl⟩ : ∃ m', m = m' + 1 := ⟨m - 1, by omega⟩
            obtain ⟨b', o', u, v, e', hbk', e2, d2, c3, c4⟩ := HDS.out.at_ (k := m') (by omega)
            obtain ⟨rfl, rfl⟩ : g = b' ∧ (j + 1) * 2 = o' := by simpa using e'
            rw [List.getElem?_drop] at e1 e2
            rw [drop_get HDR.out (by omega)] at e1 e2
            have hst : compL (l.take (j + 1 + (m' + 1 + 1))) = if (p, q) = (u, v) then compL (l.take (j + 1 + (m' + 1))) else compL (l.take (j + 1 + (m' + 1))) ++ [(p, q)] := compL_step (j := j + 1 + m') e2 (by simpa [Nat.add_assoc] using e1)
            have hm9 : m' + 1 <= 9223372036854775807 := by omega
            have C1 := Lib.hid c1; have C2 := Lib.hid c2; have C3 := Lib.hid c3; have C4 := Lib.hid c4; have ST := Lib.hid hst
            clear c1 c2 c3 c4 hst e1 e2 d1 d2 e e' hsl
            cases hq : deq (p, q) (u, v) with
            | true =>
              have HQ := Lib.hid hq; clear hq
              go_wp2_with fail
              refine wp_region_M mixed (by kernel_rfl) ?_
              refine MDerR.step (Ob.move Wanted.free Has.oldIs) ?_
              refine MDerR.step (Ob.move Wanted.free Has.oldIs) ?_
              refine MDerR.step (Ob.indexV Wanted.free (Has.new 0 1) (Has.new 1 0) (fun w1 => index_dots hlm)) ?_
              refine MDerR.step (Ob.loadV Wanted.free (Has.new 2 0) (fun w1 hb1 => load_dot hb1 C1.out C2.out)) ?_
              refine MDerR.step (Ob.move Wanted.free Has.oldIs) ?_
              refine MDerR.step (Ob.move Wanted.free Has.oldIs) ?_
              refine MDerR.step (Ob.binV Wanted.free (Has.new 5 0) (Has.cst _) (fun w1 => sub_one hm9)) ?_
              refine MDerR.step (Ob.indexV Wanted.free (Has.new 4 2) (Has.new 6 0) (fun w1 => index_dots (by omega))) ?_
              refine MDerR.step (Ob.loadV Wanted.free (Has.new 7 0) (fun w1 hb1 => load_dot hb1 C3.out C4.out)) ?_
              refine MDerR.step (Ob.binV Wanted.free (Has.new 3 5) (Has.new 8 0) (fun w1 => dot_neq true HQ.out)) ?_
              simp only [MDerR, dstsOf, List.map, EndM, List.reverse_cons, List.reverse_nil, List.nil_append, List.cons_append]
              intro wE hE
              iterate 10 (rintro _ rfl)
              simp only [Act.put, List.setIfInBounds_toArray, List.set_cons_zero, List.set_cons_succ]
              go_wp2
              go_roundw
              case rel => exact ⟨k, m' + 1 + 1, l', rfl, by simp, by omega, hk1, by omega, by omega, HB2.out.trans (hE.mono (by have := HB2.out.size; have := HBEL.out.size; omega)), Row.mono HR.out hE, HL'.out, HDR.out, by rw [ST.out, if_pos (deq_iff.1 HQ.out)]; exact HTK.out⟩
              case measure => simp [intOf]; omega
            | false =>
              have HQ := Lib.hid hq; clear hq
              go_wp2_with fail
              refine wp_region_M mixed (by kernel_rfl) ?_
              refine MDerR.step (Ob.move Wanted.free Has.oldIs) ?_
              refine MDerR.step (Ob.move Wanted.free Has.oldIs) ?_
              refine MDerR.step (Ob.indexV Wanted.free (Has.new 0 1) (Has.new 1 0) (fun w1 => index_dots hlm)) ?_
              refine MDerR.step (Ob.loadV Wanted.free (Has.new 2 0) (fun w1 hb1 => load_dot hb1 C1.out C2.out)) ?_
              refine MDerR.step (Ob.move Wanted.free Has.oldIs) ?_
              refine MDerR.step (Ob.move Wanted.free Has.oldIs) ?_
              refine MDerR.step (Ob.binV Wanted.free (Has.new 5 0) (Has.cst _) (fun w1 => sub_one hm9)) ?_
              refine MDerR.step (Ob.indexV Wanted.free (Has.new 4 2) (Has.new 6 0) (fun w1 => index_dots (by omega))) ?_
              refine MDerR.step (Ob.loadV Wanted.free (Has.new 7 0) (fun w1 hb1 => load_dot hb1 C3.out C4.out)) ?_
              refine MDerR.step (Ob.binV Wanted.free (Has.new 3 5) (Has.new 8 0) (fun w1 => dot_neq false HQ.out)) ?_
              simp only [MDerR, dstsOf, List.map, EndM, List.reverse_cons, List.reverse_nil, List.nil_append, List.cons_append]
              intro wE hE
              iterate 10 (rintro _ rfl)
              simp only [Act.put, List.setIfInBounds_toArray, List.set_cons_zero, List.set_cons_succ]
              have hrE := Row.mono HR.out hE
              have hkl : k < l'.length := by rw [HL'.out, <- HN.out]; omega
              have hrE' : Row wE B (.slice (some ⟨g, 0, none⟩) l'.length c) l' := by rw [HL'.out, <- HN.out]; exact hrE
              have ix := fun w => (index_dots (w := w) (b := g) (o := (j + 1) * 2) (n := n - (j + 1)) (c := c - (j + 1)) hlm)
              have y1 := cellKeep hE C1.out; have y2 := cellKeep hE C2.out
              obtain ⟨s1, s2⟩ := dcells_get l' k l'[k] (List.getElem?_eq_getElem hkl)
              have f1 := (World.ownsRow.cellAt hrE' (k * 2) (by omega)).trans s1
              have f2 := (World.ownsRow.cellAt hrE' (k * 2 + 1) (by omega)).trans s2
              have z1 := World.ownsRow.frozenAt hrE' (k * 2)
              have z2 := World.ownsRow.frozenAt hrE' (k * 2 + 1)
              have hp := Row.put hrE hkl p q
              have HP := Lib.hid hp; have HE := Lib.hid hE; have HKL := Lib.hid hkl
              clear hrE hrE' hp hE s1 s2 C1 C2 C3 C4
              have hkn : k < n := by omega
              go_wp2
              go_roundw
              case rel =>
                refine ⟨k + 1, m' + 1 + 1, l'.set k (p, q), by simp, by simp, by omega, by omega, by omega, by omega, (HB2.out.trans (HE.out.mono (by have := HB2.out.size; have := HBEL.out.size; omega))).trans HP.out.2, HP.out.1, by rw [List.length_set]; exact HL'.out, ?_, ?_⟩
                · rw [List.drop_set_of_lt (by omega), <- List.drop_drop, HDR.out, List.drop_drop]
                · have hset : (l'.set k (p, q))[k]? = some (p, q) := by rw [List.getElem?_set_self HKL.out]
                  rw [take_snoc hset, List.take_set_of_le (Nat.le_refl _), HTK.out, ST.out, if_neg (deq_not.1 HQ.out)]
              case measure => simp [intOf]; omega
          · have hfin : l'.take k = compL l := by
              have h9 : l.take (j + 1 + m) = l := List.take_of_length_le (by rw [<- HN.out]; omega)
              have := HTK.out
              rw [h9] at this
              exact this
            have hR' : Row wr B (.slice (some ⟨g, 0, none⟩) l'.length c) l' := by rw [HL'.out, <- HN.out]; exact HR.out
            have hsl2 := fun w => slice_from_dots (w := w) (A := some ⟨g, 0, none⟩) (n := n) (c := c) (k := k) (by omega) hcap
            have hsl3 := fun w => slice_to_dots (w := w) (A := some ⟨g, 0, none⟩) (n := n) (c := c) (k := k) (by omega)
            have hcl := fun ty => run_clear_row Tryz.underlying57 hR' (k := k) (by rw [HL'.out, <- HN.out]; omega) ty
            rw [HL'.out, <- HN.out] at hcl
            obtain ⟨w', hc1, hc2, hc3⟩ := hcl 0
            have hc4 : ∀ ty, (Builtin.clear_ #[57] ty #[.slice (cutA (some ⟨g, 0, none⟩) c k) (n - k) (c - k)]).run Tryz.prog wr = .ok (.tuple #[]) w' := fun ty => hc1
            have R2 := Lib.hid hc2; have R3 := Lib.hid hc3; have FIN := Lib.hid hfin
            generalize cutA (some ⟨g, 0, none⟩) c k = Z at *
            clear hcl hc1 hc2 hc3 hR' hfin hsl
            go_wp2
            go_ret
            exact ⟨_, rfl, (HBEL.out.trans HB2.out).trans R3.out, by rw [<- FIN.out]; exact R2.out⟩
    · have e : compL l = l := by have := HC.out; rwa [List.take_of_length_le (by rw [<- HN.out]; omega)] at this
      have E := Lib.hid e; clear e
      go_wp2
      go_ret
      exact ⟨_, rfl, hb.mono (by omega), by rw [E.out]; have := Row.mono H.out hb; exact this⟩
theorem dcompact (B : Nat) (v : Value) (l : List Dot) (w : World) (h : Row w B v l) (hs : Small l.length) :
    Calls Tryz.prog 178 #[v] w (RetOwn B (compL l) w) := by
  by_cases h2 : 2 <= l.length
  · rcases h.2 with ⟨rfl, h0⟩ | ⟨g, cap, cur, rfl, _⟩
    · omega
    · exact dcompact_row B g cap l w h hs h2
  · obtain ⟨A, c, rfl, hd⟩ := Row.dots h
    have e := compL_one (l := l) (by omega)
    have H := Lib.hid h; have E := Lib.hid e; clear h e hd
    have hc : decide ((l.length : Int) < 2) = true := by rw [decide_eq_true_iff]; omega
    have h2' : l.length < 2 := by omega
    generalize hn : l.length = n at *
    have HN := Lib.hid hn; clear hn
    go_enter Tryz.func178, Tryz.ntmps178
    go_wp2
    go_ret
    exact ⟨_, rfl, Below.refl _ _, by rw [E.out]; exact H.out⟩
end Go.Proofs.YtphhhnjeojdnkaaGreatDoor

/-
  dot.Set.
-/
namespace Go.Proofs.YtphhhnjeojdnkaaGreatDoor
open Go.RowKit
theorem dset (A : Option Addr) (n c : Nat) (l : List Dot) (w : World) (h : Dots w A n c l) (hs : Small n) :
    Calls Tryz.prog 129 #[.slice A n c] w (Ret w (IsRow w.heap.size (unionD l []))) := by
  have f1 := cclone57 A n c l w h hs
  have hsl : Small l.length := by rw [<- h.len]; exact hs
  have F1 := Lib.hid f1; have HS := Lib.hid hsl
  clear f1 h hs hsl
  go_enter Tryz.func129, Tryz.ntmps129
  go_wp2_with fail
  refine F1.out.mono ?_
  rintro e w1 ⟨v, rfl, hb1, hr1⟩
  have f2 := dsort w.heap.size v l w1 hr1 HS.out
  have F2 := Lib.hid f2; clear f2 hr1 F1
  go_wp2_with fail
  refine F2.out.mono ?_
  rintro e w2 ⟨rfl, hb2, l', hso, hr2⟩
  have f3 := dcompact w.heap.size v l' w2 hr2 (by have := hso.1.length_eq; unfold Small; have := HS.out.out; omega)
  rw [comp_sorted hso] at f3
  have F3 := Lib.hid f3; clear f3 hr2 hso F2
  go_wp2_with fail
  refine F3.out.mono ?_
  rintro e w3 ⟨v', rfl, hb3, hr3⟩
  have R3 := Lib.hid hr3; clear hr3 F3
  go_wp2_with fail
  go_ret
  exact ⟨_, rfl, (hb1.trans hb2).trans hb3, R3.out⟩
end Go.Proofs.YtphhhnjeojdnkaaGreatDoor

/-
  dot.Union: its closure.
-/
namespace Go.Proofs.YtphhhnjeojdnkaaGreatDoor
open Go.RowKit
structure Frame (N : Nat) (v : Value) (w w' : World) : Prop where
  os : w'.os = w.os
  tape : w'.tape = w.tape
  output : w'.output = w.output
  size : w.heap.size <= w'.heap.size
  block : ∀ k, k < w.heap.size -> k ≠ N -> v.ownBlock ≠ some k -> w'.heap[k]? = w.heap[k]?
def OutPost (N B : Nat) (v : Value) (l : List Dot) (w : World) (e : Ending) (w' : World) : Prop :=
  e = .returned (.tuple #[]) ∧ Frame N v w w' ∧ ∃ v', w'.cell? ⟨N, 0, none⟩ = some v' ∧ w'.frozen? ⟨N, 0, none⟩ = false ∧ Row w' B v' l ∧ ∀ g, v'.ownBlock = some g -> v.ownBlock = some g ∨ w.heap.size <= g
theorem dkeep (N B : Nat) (x y : Int) (v : Value) (l : List Dot) (w : World) (hN : N < B) (hc : w.cell? ⟨N, 0, none⟩ = some v) (hf : w.frozen? ⟨N, 0, none⟩ = false) (h : Row w B v l) (hs : Small l.length) (hB : B <= w.heap.size) :
    Calls Tryz.prog 230 #[.agg #[.int .i64 x, .int .i64 y], .pointer (some ⟨N, 0, none⟩)] w (OutPost N B v (l ++ [(x, y)]) w) := by
  have hb : Below w.heap.size w ((w.alloc (.cells #[.int .i64 x, .int .i64 y] 67)).alloc (.cells #[.int .i64 x, .int .i64 y] 67)) := by go_grown
  have hNw : N < w.heap.size := by omega
  have c0 : (w.alloc (.cells #[.int .i64 x, .int .i64 y] 67)).cell? ⟨N, 0, none⟩ = some v := cellKeep (by go_grown) hc
  have hown : ∀ k, v.ownBlock = some k -> k ≠ N := fun k hk e => by have := Row.own w h k hk; omega
  have hd1 : Dots ((w.alloc (.cells #[.int .i64 x, .int .i64 y] 67)).alloc (.cells #[.int .i64 x, .int .i64 y] 67)) (some ⟨w.heap.size + 1, 0, none⟩) 1 1 [(x, y)] := by have := Dots.one (w.alloc (.cells #[.int .i64 x, .int .i64 y] 67)) x y; simpa using this
  have D1 := Lib.hid hd1; clear hd1
  have H := Lib.hid h; have HB := Lib.hid hb; have HC := Lib.hid hc; have HF := Lib.hid hf; have HO := Lib.hid hown
  clear h hb hc hf hown
  go_enter Tryz.func230, Tryz.ntmps230
  go_wp2_with (at_builtin; (refine wpList_appO (B := B) (l := l) (k := [(x, y)]) rfl rfl Tryz.underlying57 rfl rfl (Row.mono H.out HB.out) D1.out (by have := hs.out; simp; omega) (by simp; omega) ?_; intro v' w' hr' hg' hw'; simp only [Act.put, List.setIfInBounds_toArray, List.set_cons_zero, List.set_cons_succ]; obtain ⟨A', c', ev, hd'⟩ := Row.dots hr'; subst ev; have cN : w'.cell? ⟨N, 0, none⟩ = some v := hg'.cell (cellKeep HB.out HC.out) (fun e => HO.out N e.symm rfl); have fN : w'.frozen? ⟨N, 0, none⟩ = false := (World.frozen?_of_block (hg'.block N (by simp; omega) (fun e => HO.out N e.symm rfl))).trans ((HB.out.frozen (p := ⟨N, 0, none⟩) hNw).trans HF.out)))
  refine bodyPost_ret (results_none rfl _ _ _) rfl ?_
  have hne : ∀ k, (Value.slice A' (l ++ [(x, y)]).length c').ownBlock = some k -> k ≠ N := fun k hk e => by have := Row.own w' hr' k hk; omega
  have elen : (l ++ [(x, y)]).length = l.length + 1 := by simp
  rw [elen] at hr' hne hw'
  refine ⟨rfl, ⟨hg'.os.trans HB.out.os, hg'.tape.trans HB.out.tape, hg'.output.trans HB.out.output, ?_, fun k hk h1 h2 => ?_⟩, _, cell_set cN, ?_, Row.set_ hr' (p := ⟨N, 0, none⟩) hne _, fun g hg => ?_⟩
  · have h1 := HB.out.size; have h2 := hg'.size
    simp [World.setCell]; omega
  · rw [Below.heap_setCell _ _ _ _ h1, hg'.block k (by have := HB.out.size; omega) (fun e => h2 e.symm)]
    exact HB.out.block k hk
  · exact (World.frozen?_setCell _ _ _ _).trans fN
  · rcases hw' g hg with h | h
    · exact .inl h
    · exact .inr (by have := HB.out.size; omega)
end Go.Proofs.YtphhhnjeojdnkaaGreatDoor

/-
  dot.parts with one closure that keeps all; dot.Union.
-/
namespace Go.Proofs.YtphhhnjeojdnkaaGreatDoor
open Go.RowKit
def mergeD : List Dot -> List Dot -> List Dot
  | [], b => b
  | a :: s, [] => a :: s
  | a :: s, b :: t => if lessD a b then a :: mergeD s (b :: t) else if lessD b a then b :: mergeD (a :: s) t else a :: mergeD s t
  termination_by a b => a.length + b.length
theorem mem_merge : ∀ (a b : List Dot) (x : Dot), x ∈ mergeD a b ↔ x ∈ a ∨ x ∈ b
  | [], b, x => by simp [mergeD]
  | a :: s, [], x => by simp [mergeD]
  | a :: s, b :: t, x => by
    rw [mergeD]
    split
    · rw [List.mem_cons, mem_merge s (b :: t) x, List.mem_cons (a := x) (b := a), or_assoc]
    · split
      · rw [List.mem_cons, mem_merge (a :: s) t x, List.mem_cons (a := x) (b := b)]
        constructor
        · rintro (h | h | h)
          · exact .inr (.inl h)
          · exact .inl h
          · exact .inr (.inr h)
        · rintro (h | h | h)
          · exact .inr (.inl h)
          · exact .inl h
          · exact .inr (.inr h)
      · rename_i h1 h2
        have e : a = b := less_total (by simpa using h1) (by simpa using h2)
        subst e
        rw [List.mem_cons, mem_merge s t x, List.mem_cons, List.mem_cons]
        constructor
        · rintro (h | h | h)
          · exact .inl (.inl h)
          · exact .inl (.inr h)
          · exact .inr (.inr h)
        · rintro ((h | h) | (h | h))
          · exact .inl h
          · exact .inr (.inl h)
          · exact .inl h
          · exact .inr (.inr h)
  termination_by a b => a.length + b.length
theorem ord_merge : ∀ (a b : List Dot), Ord a -> Ord b -> Ord (mergeD a b)
  | [], b, _, h => by simpa [mergeD] using h
  | a :: s, [], h, _ => by simpa [mergeD] using h
  | a :: s, b :: t, ha, hb => by
    obtain ⟨a1, a2⟩ := List.pairwise_cons.1 ha
    obtain ⟨b1, b2⟩ := List.pairwise_cons.1 hb
    rw [mergeD]
    split
    · rename_i h1
      refine List.pairwise_cons.2 ⟨fun x hx => ?_, ord_merge s (b :: t) a2 hb⟩
      rcases (mem_merge _ _ _).1 hx with h | h
      · exact a1 x h
      · rcases List.mem_cons.1 h with rfl | h
        · exact h1
        · exact less_trans h1 (b1 x h)
    · split
      · rename_i _ h2
        refine List.pairwise_cons.2 ⟨fun x hx => ?_, ord_merge (a :: s) t ha b2⟩
        rcases (mem_merge _ _ _).1 hx with h | h
        · rcases List.mem_cons.1 h with rfl | h
          · exact h2
          · exact less_trans h2 (a1 x h)
        · exact b1 x h
      · rename_i h1 h2
        have e : a = b := less_total (by simpa using h1) (by simpa using h2)
        subst e
        refine List.pairwise_cons.2 ⟨fun x hx => ?_, ord_merge s t a2 b2⟩
        rcases (mem_merge _ _ _).1 hx with h | h
        · exact a1 x h
        · exact b1 x h
  termination_by a b => a.length + b.length
theorem merge_union (a b : List Dot) : mergeD (unionD a []) (unionD b []) = unionD a b :=
  ord_ext (ord_merge _ _ (ord_union _ _) (ord_union _ _)) (ord_union _ _) fun d => by
    rw [mem_merge, mem_union, mem_union, mem_union]; simp
end Go.Proofs.YtphhhnjeojdnkaaGreatDoor

/-
  dot.parts with one closure that keeps all; dot.Union.
-/
namespace Go.Proofs.YtphhhnjeojdnkaaGreatDoor
open Go.RowKit
def KeepP (N : Nat) (v : Value) (b : Nat) : Prop := b ≠ N ∧ v.ownBlock ≠ some b
theorem Frame.cell {N : Nat} {v : Value} {w w' : World} (h : Frame N v w w') {b o : Nat} (hb : b < w.heap.size) (hk : KeepP N v b) : w'.cell? ⟨b, o, none⟩ = w.cell? ⟨b, o, none⟩ := World.cell?_of_block (a := ⟨b, o, none⟩) (h.block b hb hk.1 hk.2)
theorem Frame.dots {N : Nat} {v : Value} {w w' : World} (h : Frame N v w w') {A : Option Addr} {n c : Nat} {l : List Dot} (hd : Dots w A n c l) (ho : Off (KeepP N v) A l) : Dots w' A n c l := by
  refine ⟨hd.len, hd.cap, hd.max, hd.nil, fun i d hi => ?_⟩
  obtain ⟨b, o, rfl, hb, h1, h2⟩ := hd.cell i d hi
  have hl : l ≠ [] := fun e => by subst e; simp at hi
  have hk : KeepP N v b := ho hl _ rfl
  exact ⟨b, o, rfl, Nat.lt_of_lt_of_le hb h.size, (h.cell hb hk).trans h1, (h.cell hb hk).trans h2⟩
theorem Frame.off {N : Nat} {v v' : Value} {w : World} {A : Option Addr} {n c : Nat} {l : List Dot} (hd : Dots w A n c l) (ho : Off (KeepP N v) A l) (hv : ∀ g, v'.ownBlock = some g -> v.ownBlock = some g ∨ w.heap.size <= g) : Off (KeepP N v') A l := fun hl a ha =>
  ⟨(ho hl a ha).1, fun e => by
    rcases hv _ e with h | h
    · exact (ho hl a ha).2 h
    · have := hd.lt hl a ha; omega⟩
theorem Frame.below {N : Nat} {v : Value} {w w' : World} (h : Frame N v w w') (hv : ∀ k, v.ownBlock = some k -> N < k) (hN : N <= w.heap.size) : Below N w w' :=
  ⟨h.os, h.tape, h.output, h.size, fun k hk => h.block k (by omega) (by omega) (fun e => by have := hv k e; omega)⟩
theorem Off.drop {p : Nat -> Prop} {A : Option Addr} {c k : Nat} {l : List Dot} (h : Off p A l) : Off p (cutA A c k) (l.drop k) := fun hl => cutA_block (h fun e => hl (by rw [e]; simp))
structure PartsAt (N B : Nat) (w : World) (a0 b0 : List Dot) (A : Option Addr) (n c : Nat) (a : List Dot) (A' : Option Addr) (m d : Nat) (b acc : List Dot) (v : Value) (wr : World) : Prop where
  d1 : Dots wr A n c a
  d2 : Dots wr A' m d b
  o1 : Off (KeepP N v) A a
  o2 : Off (KeepP N v) A' b
  cell : wr.cell? ⟨N, 0, none⟩ = some v
  free : wr.frozen? ⟨N, 0, none⟩ = false
  row : Row wr B v acc
  below : Below N w wr
  base : B <= wr.heap.size
  box : N < B
  merge : acc ++ mergeD a b = mergeD a0 b0
  len : acc.length + (a.length + b.length) <= a0.length + b0.length
section
variable {N B : Nat} {w wr w' : World} {a0 b0 a b acc s t : List Dot} {A A' : Option Addr} {n c m d : Nat} {v : Value} {p q : Dot}
theorem PartsAt.mono (h : PartsAt N B w a0 b0 A n c a A' m d b acc v wr) (hE : Below wr.heap.size wr w') : PartsAt N B w a0 b0 A n c a A' m d b acc v w' :=
  ⟨h.d1.mono hE, h.d2.mono hE, h.o1, h.o2, cellKeep hE h.cell, (hE.frozen (p := ⟨N, 0, none⟩) (Nat.lt_of_lt_of_le h.box h.base)).trans h.free, Row.mono h.row hE, h.below.trans (hE.mono (by have := h.box; have := h.base; omega)), Nat.le_trans h.base hE.size, h.box, h.merge, h.len⟩
structure Kept (N B : Nat) (v : Value) (l : List Dot) (w : World) (v' : Value) (w' : World) : Prop where
  frame : Frame N v w w'
  cell : w'.cell? ⟨N, 0, none⟩ = some v'
  free : w'.frozen? ⟨N, 0, none⟩ = false
  row : Row w' B v' l
  own : ∀ g, v'.ownBlock = some g -> v.ownBlock = some g ∨ w.heap.size <= g
theorem PartsAt.low (h : PartsAt N B w a0 b0 A n c a A' m d b acc v wr) : ∀ k, v.ownBlock = some k -> N < k := fun k hk => by have := Row.own wr h.row k hk; have := h.box; omega
theorem PartsAt.first {v' : Value} (h : PartsAt N B w a0 b0 A n c (p :: s) A' m d b acc v wr) (hm : mergeD (p :: s) b = p :: mergeD s b) (k : Kept N B v (acc ++ [p]) wr v' w') :
    PartsAt N B w a0 b0 (cutA A c 1) (n - 1) (c - 1) s A' m d b (acc ++ [p]) v' w' :=
  ⟨(k.frame.dots h.d1 h.o1).drop (k := 1) (by have := h.d1.len; simp at this; omega), k.frame.dots h.d2 h.o2, (Frame.off h.d1 h.o1 k.own).drop (k := 1), Frame.off h.d2 h.o2 k.own, k.cell, k.free, k.row,
    h.below.trans (k.frame.below h.low (by have := h.box; have := h.base; omega)), Nat.le_trans h.base k.frame.size, h.box, by rw [<- h.merge, hm]; simp, by have := h.len; simp at this ⊢; omega⟩
theorem PartsAt.second {v' : Value} (h : PartsAt N B w a0 b0 A n c a A' m d (q :: t) acc v wr) (hm : mergeD a (q :: t) = q :: mergeD a t) (k : Kept N B v (acc ++ [q]) wr v' w') :
    PartsAt N B w a0 b0 A n c a (cutA A' d 1) (m - 1) (d - 1) t (acc ++ [q]) v' w' :=
  ⟨k.frame.dots h.d1 h.o1, (k.frame.dots h.d2 h.o2).drop (k := 1) (by have := h.d2.len; simp at this; omega), Frame.off h.d1 h.o1 k.own, (Frame.off h.d2 h.o2 k.own).drop (k := 1), k.cell, k.free, k.row,
    h.below.trans (k.frame.below h.low (by have := h.box; have := h.base; omega)), Nat.le_trans h.base k.frame.size, h.box, by rw [<- h.merge, hm]; simp, by have := h.len; simp at this ⊢; omega⟩
theorem PartsAt.both {v' : Value} (h : PartsAt N B w a0 b0 A n c (p :: s) A' m d (q :: t) acc v wr) (hm : mergeD (p :: s) (q :: t) = p :: mergeD s t) (k : Kept N B v (acc ++ [p]) wr v' w') :
    PartsAt N B w a0 b0 (cutA A c 1) (n - 1) (c - 1) s (cutA A' d 1) (m - 1) (d - 1) t (acc ++ [p]) v' w' :=
  ⟨(k.frame.dots h.d1 h.o1).drop (k := 1) (by have := h.d1.len; simp at this; omega), (k.frame.dots h.d2 h.o2).drop (k := 1) (by have := h.d2.len; simp at this; omega), (Frame.off h.d1 h.o1 k.own).drop (k := 1), (Frame.off h.d2 h.o2 k.own).drop (k := 1), k.cell, k.free, k.row,
    h.below.trans (k.frame.below h.low (by have := h.box; have := h.base; omega)), Nat.le_trans h.base k.frame.size, h.box, by rw [<- h.merge, hm]; simp, by have := h.len; simp at this ⊢; omega⟩
theorem dkeepK {x y : Int} (h : PartsAt N B w a0 b0 A n c a A' m d b acc v wr) (hs : a0.length + b0.length <= 1000000) :
    Calls Tryz.prog 230 #[.agg #[.int .i64 x, .int .i64 y], .pointer (some ⟨N, 0, none⟩)] wr fun e w' => e = .returned (.tuple #[]) ∧ ∃ v', Kept N B v (acc ++ [(x, y)]) wr v' w' :=
  (dkeep N B x y v acc wr h.box h.cell h.free h.row (by have := h.len; unfold Small; omega) h.base).mono fun _ _ ⟨e, f, v', h1, h2, h3, h4⟩ => ⟨e, v', f, h1, h2, h3, h4⟩
end
def PartsRel (N B : Nat) (w : World) (a0 b0 : List Dot) (x y : Value) (wr : World) : Prop :=
  ∃ (A : Option Addr) (n c : Nat) (a : List Dot) (A' : Option Addr) (m d : Nat) (b acc : List Dot) (v : Value), x = .slice A n c ∧ y = .slice A' m d ∧ PartsAt N B w a0 b0 A n c a A' m d b acc v wr
def lenOf (v : Value) : Nat := match v with | .slice _ n _ => n | _ => 0
theorem merge_first {x y : Dot} {s t : List Dot} (h : lessD x y = true) : mergeD (x :: s) (y :: t) = x :: mergeD s (y :: t) := by rw [mergeD, if_pos h]
theorem merge_second {x y : Dot} {s t : List Dot} (h : lessD x y = false) (h2 : lessD y x = true) : mergeD (x :: s) (y :: t) = y :: mergeD (x :: s) t := by rw [mergeD, if_neg (by rw [h]; simp), if_pos h2]
theorem merge_both {x y : Dot} {s t : List Dot} (h : lessD x y = false) (h2 : lessD y x = false) : mergeD (x :: s) (y :: t) = x :: mergeD s t := by rw [mergeD, if_neg (by rw [h]; simp), if_neg (by rw [h2]; simp)]
theorem merge_nil (a : List Dot) : mergeD a [] = a := by cases a <;> simp [mergeD]
theorem Dots.head {w : World} {A : Option Addr} {n c : Nat} {p : Dot} {s : List Dot} (h : Dots w A n c (p :: s)) : ∃ b o, A = some ⟨b, o, none⟩ ∧ b < w.heap.size ∧ w.cell? ⟨b, o, none⟩ = some (.int .i64 p.1) ∧ w.cell? ⟨b, o + 1, none⟩ = some (.int .i64 p.2) ∧ 1 <= n := by
  obtain ⟨b, o, e, hb, h1, h2⟩ := h.cell 0 p rfl
  exact ⟨b, o, e, hb, by simpa using h1, by simpa using h2, by have := h.len; simp at this; omega⟩
theorem index_head {w : World} {b o n c : Nat} (hn : 1 <= n) : (Instr.indexAt 57 (.slice (some ⟨b, o, none⟩) n c) (.int .i64 0)).run Tryz.prog w = .ok (.pointer (some ⟨b, o, none⟩)) w := by
  have := index_dots (w := w) (b := b) (o := o) (n := n) (c := c) (k := 0) (by omega)
  simpa using this
theorem slice_tail {w : World} {A : Option Addr} {n c : Nat} (h : 1 <= n) (hc : n <= c) : (Instr.sliceAt 57 (.slice A n c) (some (.int .i64 1)) none none).run Tryz.prog w = .ok (.slice (cutA A c 1) (n - 1) (c - 1)) w := slice_from_dots (k := 1) h hc
theorem cmpD_gt {a b : Dot} : 0 < cmpD a b ↔ lessD b a = true := by
  rw [lessD_iff]; unfold cmpD cmpI
  split <;> split <;> (try split) <;> omega
abbrev keepF (N : Nat) : Value := .func (.func 230) #[] #[.pointer (some ⟨N, 0, none⟩)]
theorem dparts (N B : Nat) (A A' : Option Addr) (n c m d : Nat) (a b : List Dot) (w : World) (ha : Dots w A n c a) (hb : Dots w A' m d b) (hs : Small (n + m)) (hN : N < B) (hB : B <= w.heap.size) (hc : w.cell? ⟨N, 0, none⟩ = some (.slice none 0 0)) (hf : w.frozen? ⟨N, 0, none⟩ = false) :
    Calls Tryz.prog 231 #[.slice A n c, .slice A' m d, keepF N, keepF N, keepF N] w
      fun e w' => e = .returned (.tuple #[]) ∧ Below N w w' ∧ w'.frozen? ⟨N, 0, none⟩ = false ∧ ∃ v, w'.cell? ⟨N, 0, none⟩ = some v ∧ Row w' B v (unionD a b) := by
  have hsn : Small n := by have := hs.out; unfold Small; omega
  have hsm : Small m := by have := hs.out; unfold Small; omega
  have F1 := Lib.hid (dset A n c a w ha hsn)
  have HA := Lib.hid ha; have HB := Lib.hid hb; have HC := Lib.hid hc; have HF := Lib.hid hf
  clear ha hb hc hf
  go_enter Tryz.func231, Tryz.ntmps231
  go_wp2_with fail
  refine F1.out.mono ?_
  rintro e w1 ⟨v1, rfl, hb1, hr1⟩
  have F2 := Lib.hid (dset A' m d b w1 (HB.out.mono hb1) hsm)
  have HR1 := Lib.hid hr1
  clear hr1
  go_wp2_with fail
  refine F2.out.mono ?_
  rintro e w2 ⟨v2, rfl, hb2, hr2⟩
  have hb12 := hb1.le hb2
  obtain ⟨A1, c1, rfl, hd1⟩ := Row.dots (Row.mono HR1.out hb2)
  have ho1 : Off (KeepP N (.slice none 0 0)) A1 (unionD a []) := fun _ x hx => ⟨by have := Row.from_ HR1.out x hx; omega, by simp [Value.ownBlock]⟩
  obtain ⟨A2, c2, rfl, hd2⟩ := Row.dots hr2
  have ho2 : Off (KeepP N (.slice none 0 0)) A2 (unionD b []) := fun _ x hx => ⟨by have := Row.from_ hr2 x hx; have := hb1.size; omega, by simp [Value.ownBlock]⟩
  have start : PartsRel N B w (unionD a []) (unionD b []) (.slice A1 (unionD a []).length c1) (.slice A2 (unionD b []).length c2) w2 :=
    ⟨A1, _, c1, _, A2, _, c2, _, [], .slice none 0 0, rfl, rfl, hd1, hd2, ho1, ho2, cellKeep hb12 HC.out, (hb12.frozen (p := ⟨N, 0, none⟩) (by show N < _; omega)).trans HF.out, Row.nil_ _ _, hb12.mono (by omega), (by have := hb12.size; omega), hN, (by simp), (by simp)⟩
  have hlen : (unionD a []).length + (unionD b []).length <= 1000000 := by
    have h1 := unionD_length a []; have h2 := unionD_length b []; have := HA.out.len; have := HB.out.len; have := hs.out; simp at h1 h2; omega
  have hun := merge_union a b
  have START := Lib.hid start; have HLEN := Lib.hid hlen; have HUN := Lib.hid hun
  clear start hlen hun hb12 hd1 ho1 hd2 ho2 hr2 F1 F2 HR1 HA HB HC HF hb1 hb2
  generalize unionD a [] = a0 at *
  generalize unionD b [] = b0 at *
  go_wp2
  go_loopw [0, 1] (fun x y wr => PartsRel N B w a0 b0 x y wr) (fun x y _ => lenOf x + lenOf y)
  case atStart => exact START.out
  case round =>
    clear START
    obtain ⟨A1, n1, c1, a1, A2, n2, c2, b1, acc, v, rfl, rfl, hp⟩ := hrel
    cases a1 with
    | nil =>
      have hn1 : n1 = 0 := hp.d1.len
      subst hn1
      cases b1 with
      | nil =>
        have hn2 : n2 = 0 := hp.d2.len
        subst hn2
        have H := Lib.hid hp; clear hp
        go_wp2
        refine bodyPost_end (results_none rfl _ _ _) rfl ?_
        refine ⟨rfl, H.out.below, H.out.free, v, H.out.cell, ?_⟩
        have e : acc = unionD a b := by have := H.out.merge; rw [HUN.out] at this; simpa [mergeD] using this
        rw [<- e]; exact H.out.row
      | cons q t =>
        obtain ⟨x, y⟩ := q
        obtain ⟨b', o', rfl, hb', k1, k2, hn2⟩ := hp.d2.head
        have hc2 := hp.d2.cap
        have hz2 : ((n2 : Int) == 0) = false := by rw [beq_eq_false_iff_ne]; omega
        have H := Lib.hid hp; have K1 := Lib.hid k1; have K2 := Lib.hid k2; have Z2 := Lib.hid hz2
        clear hp k1 k2 hz2
        have n1 : decide ((n2 : Int) > 0) = true := by rw [decide_eq_true_iff]; omega
        go_wp2_with fail
        refine wp_region_M mixed (by kernel_rfl) ?_
        refine MDerR.step (Ob.move Wanted.free Has.oldIs) ?_
        refine MDerR.step (Ob.lenV Wanted.free (Has.new 0 0) (fun w1 => len_dots)) ?_
        refine MDerR.step (Ob.binV Wanted.free (Has.new 1 0) (Has.cst _) (fun w1 => int_eql false Z2.out)) ?_
        refine MDerR.step (Ob.move Wanted.free (Has.new 2 0)) ?_
        refine MDerR.step (Ob.move (Wanted.on 3 0) Has.oldIs) ?_
        refine MDerR.step (Ob.lenV (Wanted.on 3 1) (Has.new 4 0) (fun w1 => len_dots)) ?_
        refine MDerR.step (Ob.binV (Wanted.on 3 2) (Has.new 5 0) (Has.cst _) (fun w1 => int_gtr false (by simp))) ?_
        refine MDerR.step (Ob.move (Wanted.on 3 3) (Has.new 6 0)) ?_
        refine MDerR.step (Ob.off 7 0) ?_
        refine MDerR.step (Ob.off 7 1) ?_
        refine MDerR.step (Ob.off 7 2) ?_
        refine MDerR.step (Ob.off 7 3) ?_
        refine MDerR.step (Ob.off 7 4) ?_
        refine MDerR.step (Ob.off 7 5) ?_
        refine MDerR.step (Ob.off 7 6) ?_
        refine MDerR.step (Ob.off 7 7) ?_
        refine MDerR.step (Ob.pickF (Wanted.on 3 12) (Has.new 7 8) (Has.cst _)) ?_
        refine MDerR.step (Ob.pickF Wanted.free (Has.new 3 13) (Has.new 16 0)) ?_
        refine MDerR.step (Ob.assign Wanted.free (Has.new 17 0)) ?_
        simp only [MDerR, dstsOf, List.map, EndM, List.reverse_cons, List.reverse_nil, List.nil_append, List.cons_append]
        intro wE hE
        iterate 19 (rintro _ rfl)
        simp only [Act.put, List.setIfInBounds_toArray, List.set_cons_zero, List.set_cons_succ]
        have H2 := Lib.hid (H.out.mono hE); have K3 := Lib.hid (cellKeep hE K1.out); have K4 := Lib.hid (cellKeep hE K2.out)
        clear H K1 K2 hE
        go_wp2_with fail
        refine wp_region_M mixed (by kernel_rfl) ?_
        refine MDerR.step (Ob.move Wanted.free Has.oldIs) ?_
        refine MDerR.step (Ob.lenV Wanted.free (Has.new 0 0) (fun w1 => len_dots)) ?_
        refine MDerR.step (Ob.binV Wanted.free (Has.new 1 0) (Has.cst _) (fun w1 => int_eql true rfl)) ?_
        refine MDerR.step (Ob.move Wanted.free (Has.new 2 0)) ?_
        refine MDerR.step (Ob.off 3 0) ?_
        refine MDerR.step (Ob.off 3 1) ?_
        refine MDerR.step (Ob.off 3 2) ?_
        refine MDerR.step (Ob.off 3 3) ?_
        refine MDerR.step (Ob.off 3 4) ?_
        refine MDerR.step (Ob.off 3 5) ?_
        refine MDerR.step (Ob.off 3 6) ?_
        refine MDerR.step (Ob.off 3 7) ?_
        refine MDerR.step (Ob.pickT Wanted.free (Has.new 3 8) (Has.cst _)) ?_
        refine MDerR.step (Ob.assign Wanted.free (Has.new 12 0)) ?_
        simp only [MDerR, dstsOf, List.map, EndM, List.reverse_cons, List.reverse_nil, List.nil_append, List.cons_append]
        intro wE hE
        iterate 14 (rintro _ rfl)
        simp only [Act.put, List.setIfInBounds_toArray, List.set_cons_zero, List.set_cons_succ]
        have H3 := Lib.hid (H2.out.mono hE); have K5 := cellKeep hE K3.out; have K6 := cellKeep hE K4.out
        clear H2 K3 K4 hE
        have ix := fun (w : World) => index_head (w := w) (b := b') (o := o') (c := c2) hn2
        have F := Lib.hid (dkeepK (x := x) (y := y) H3.out HLEN.out)
        have sl := fun (w : World) => slice_tail (w := w) (A := some ⟨b', o', none⟩) hn2 hc2
        go_wp2_with (go_at_call 230; ((with_reducible refine F.out.mono ?_); rintro e w3 ⟨rfl, v3, hk3⟩; have H4 := Lib.hid (H3.out.second (by simp [mergeD]) hk3); clear hk3 H3 F K5 K6 ix))
        go_roundw
        case rel => exact ⟨_, _, _, _, _, _, _, _, _, _, rfl, rfl, H4.out⟩
        case measure => simp [lenOf]; omega
    | cons p s =>
      obtain ⟨x, y⟩ := p
      obtain ⟨b1', o1', rfl, hb1', k1, k2, hn1⟩ := hp.d1.head
      have hc1 := hp.d1.cap
      have hg1 : decide ((n1 : Int) > 0) = true := by rw [decide_eq_true_iff]; omega
      have hz1 : ((n1 : Int) == 0) = false := by rw [beq_eq_false_iff_ne]; omega
      have K1 := Lib.hid k1; have K2 := Lib.hid k2; have Z1 := Lib.hid hz1; have G1 := Lib.hid hg1
      have ix := fun (w : World) => index_head (w := w) (b := b1') (o := o1') (c := c1) hn1
      have sl := fun (w : World) => slice_tail (w := w) (A := some ⟨b1', o1', none⟩) hn1 hc1
      have IX := Lib.hid ix; have SL := Lib.hid sl
      clear k1 k2 hz1 hg1 ix sl
      cases b1 with
      | nil =>
        have hn2 : n2 = 0 := hp.d2.len
        subst hn2
        have H := Lib.hid hp
        clear hp
        go_wp2_with fail
        refine wp_region_M mixed (by kernel_rfl) ?_
        refine MDerR.step (Ob.move Wanted.free Has.oldIs) ?_
        refine MDerR.step (Ob.lenV Wanted.free (Has.new 0 0) (fun w1 => len_dots)) ?_
        refine MDerR.step (Ob.binV Wanted.free (Has.new 1 0) (Has.cst _) (fun w1 => int_eql true rfl)) ?_
        refine MDerR.step (Ob.move Wanted.free (Has.new 2 0)) ?_
        refine MDerR.step (Ob.off 3 0) ?_
        refine MDerR.step (Ob.off 3 1) ?_
        refine MDerR.step (Ob.off 3 2) ?_
        refine MDerR.step (Ob.off 3 3) ?_
        refine MDerR.step (Ob.offU 7 0) ?_
        refine MDerR.step (Ob.offU 7 1) ?_
        refine MDerR.step (Ob.offU 7 2) ?_
        refine MDerR.step (Ob.offU 7 3) ?_
        refine MDerR.step (Ob.offU 7 4) ?_
        refine MDerR.step (Ob.offU 7 5) ?_
        refine MDerR.step (Ob.offU 7 6) ?_
        refine MDerR.step (Ob.offU 7 7) ?_
        refine MDerR.step (Ob.off 3 12) ?_
        refine MDerR.step (Ob.pickT Wanted.free (Has.new 3 13) (Has.cst _)) ?_
        refine MDerR.step (Ob.assign Wanted.free (Has.new 17 0)) ?_
        simp only [MDerR, dstsOf, List.map, EndM, List.reverse_cons, List.reverse_nil, List.nil_append, List.cons_append]
        intro wE hE
        iterate 19 (rintro _ rfl)
        simp only [Act.put, List.setIfInBounds_toArray, List.set_cons_zero, List.set_cons_succ]
        have H3 := Lib.hid (H.out.mono hE); have K5 := cellKeep hE K1.out; have K6 := cellKeep hE K2.out
        clear H K1 K2 hE
        have F := Lib.hid (dkeepK (x := x) (y := y) H3.out HLEN.out)
        have ix := IX.out; have sl := SL.out
        go_wp2_with (go_at_call 230; ((with_reducible refine F.out.mono ?_); rintro e w3 ⟨rfl, v3, hk3⟩; have H4 := Lib.hid (H3.out.first (by simp [merge_nil]) hk3); clear hk3 H3 F K5 K6 ix))
        go_roundw
        case rel => exact ⟨_, _, _, _, _, _, _, _, _, _, rfl, rfl, H4.out⟩
        case measure => simp [lenOf]; omega
      | cons q t =>
        obtain ⟨x2, y2⟩ := q
        obtain ⟨b2', o2', rfl, hb2', l1, l2, hn2⟩ := hp.d2.head
        have hc2 := hp.d2.cap
        have hz2 : ((n2 : Int) == 0) = false := by rw [beq_eq_false_iff_ne]; omega
        have L1 := Lib.hid l1; have L2 := Lib.hid l2; have Z2 := Lib.hid hz2
        have ix2 := fun (w : World) => index_head (w := w) (b := b2') (o := o2') (c := c2) hn2
        have sl2 := fun (w : World) => slice_tail (w := w) (A := some ⟨b2', o2', none⟩) hn2 hc2
        have IX2 := Lib.hid ix2; have SL2 := Lib.hid sl2
        have f := fun w1 (_ : Below wr.heap.size wr w1) => dcompare x y x2 y2 w1
        have H := Lib.hid hp
        clear hp l1 l2 hz2 ix2 sl2
        cases hl : lessD (x, y) (x2, y2) with
        | true =>
          have hcmp := cmpD_lt.2 hl
          generalize cmpD (x, y) (x2, y2) = r at *
          have HL := Lib.hid hl; have F := Lib.hid f; clear hl f
          go_wp2_with fail
          refine wp_region_M mixed (by kernel_rfl) ?_
          refine MDerR.step (Ob.move Wanted.free Has.oldIs) ?_
          refine MDerR.step (Ob.lenV Wanted.free (Has.new 0 0) (fun w1 => len_dots)) ?_
          refine MDerR.step (Ob.binV Wanted.free (Has.new 1 0) (Has.cst _) (fun w1 => int_eql false Z2.out)) ?_
          refine MDerR.step (Ob.move Wanted.free (Has.new 2 0)) ?_
          refine MDerR.step (Ob.move (Wanted.on 3 0) Has.oldIs) ?_
          refine MDerR.step (Ob.lenV (Wanted.on 3 1) (Has.new 4 0) (fun w1 => len_dots)) ?_
          refine MDerR.step (Ob.binV (Wanted.on 3 2) (Has.new 5 0) (Has.cst _) (fun w1 => int_gtr true G1.out)) ?_
          refine MDerR.step (Ob.move (Wanted.on 3 3) (Has.new 6 0)) ?_
          refine MDerR.step (Ob.move (Wanted.on 7 0) Has.oldIs) ?_
          refine MDerR.step (Ob.indexV (Wanted.on 7 1) (Has.new 8 0) (Has.cst _) (fun w1 => IX.out w1)) ?_
          refine MDerR.step (Ob.loadV (Wanted.on 7 2) (Has.new 9 0) (fun w1 hb1 => load_dot hb1 K1.out K2.out)) ?_
          refine MDerR.step (Ob.move (Wanted.on 7 3) Has.oldIs) ?_
          refine MDerR.step (Ob.indexV (Wanted.on 7 4) (Has.new 11 0) (Has.cst _) (fun w1 => IX2.out w1)) ?_
          refine MDerR.step (Ob.loadV (Wanted.on 7 5) (Has.new 12 0) (fun w1 hb1 => load_dot hb1 L1.out L2.out)) ?_
          refine MDerR.step (Ob.call2V (Wanted.on 7 6) enters177 (Has.new 10 3) (Has.new 13 0) (F.out)) ?_
          refine MDerR.step (Ob.binV (Wanted.on 7 7) (Has.new 14 0) (Has.cst _) (fun w1 => int_lss true (by rw [decide_eq_true_iff]; omega))) ?_
          refine MDerR.step (Ob.pickT (Wanted.on 3 12) (Has.new 7 8) (Has.new 15 0)) ?_
          refine MDerR.step (Ob.pickF Wanted.free (Has.new 3 13) (Has.new 16 0)) ?_
          refine MDerR.step (Ob.assign Wanted.free (Has.new 17 0)) ?_
          simp only [MDerR, dstsOf, List.map, EndM, List.reverse_cons, List.reverse_nil, List.nil_append, List.cons_append]
          intro wE hE
          iterate 19 (rintro _ rfl)
          simp only [Act.put, List.setIfInBounds_toArray, List.set_cons_zero, List.set_cons_succ]
          have H3 := Lib.hid (H.out.mono hE); have K5 := cellKeep hE K1.out; have K6 := cellKeep hE K2.out
          clear H K1 K2 L1 L2 F hE
          have F := Lib.hid (dkeepK (x := x) (y := y) H3.out HLEN.out)
          have ix := IX.out; have sl := SL.out
          go_wp2_with (go_at_call 230; ((with_reducible refine F.out.mono ?_); rintro e w3 ⟨rfl, v3, hk3⟩; have H4 := Lib.hid (H3.out.first (merge_first HL.out) hk3); clear hk3 H3 F K5 K6 ix))
          go_roundw
          case rel => exact ⟨_, _, _, _, _, _, _, _, _, _, rfl, rfl, H4.out⟩
          case measure => simp [lenOf]; omega
        | false =>
          have hnl : ¬ cmpD (x, y) (x2, y2) < 0 := by rw [cmpD_lt, hl]; simp
          have hgt := cmpD_gt (a := (x, y)) (b := (x2, y2))
          cases hl2 : lessD (x2, y2) (x, y) with
          | true =>
            have hcmp := hgt.2 hl2
            clear hgt
            generalize cmpD (x, y) (x2, y2) = r at *
            have HL := Lib.hid hl; have HL2 := Lib.hid hl2; have F := Lib.hid f; clear hl hl2 f
            go_wp2_with fail
            refine wp_region_M mixed (by kernel_rfl) ?_
            refine MDerR.step (Ob.move Wanted.free Has.oldIs) ?_
            refine MDerR.step (Ob.lenV Wanted.free (Has.new 0 0) (fun w1 => len_dots)) ?_
            refine MDerR.step (Ob.binV Wanted.free (Has.new 1 0) (Has.cst _) (fun w1 => int_eql false Z2.out)) ?_
            refine MDerR.step (Ob.move Wanted.free (Has.new 2 0)) ?_
            refine MDerR.step (Ob.move (Wanted.on 3 0) Has.oldIs) ?_
            refine MDerR.step (Ob.lenV (Wanted.on 3 1) (Has.new 4 0) (fun w1 => len_dots)) ?_
            refine MDerR.step (Ob.binV (Wanted.on 3 2) (Has.new 5 0) (Has.cst _) (fun w1 => int_gtr true G1.out)) ?_
            refine MDerR.step (Ob.move (Wanted.on 3 3) (Has.new 6 0)) ?_
            refine MDerR.step (Ob.move (Wanted.on 7 0) Has.oldIs) ?_
            refine MDerR.step (Ob.indexV (Wanted.on 7 1) (Has.new 8 0) (Has.cst _) (fun w1 => IX.out w1)) ?_
            refine MDerR.step (Ob.loadV (Wanted.on 7 2) (Has.new 9 0) (fun w1 hb1 => load_dot hb1 K1.out K2.out)) ?_
            refine MDerR.step (Ob.move (Wanted.on 7 3) Has.oldIs) ?_
            refine MDerR.step (Ob.indexV (Wanted.on 7 4) (Has.new 11 0) (Has.cst _) (fun w1 => IX2.out w1)) ?_
            refine MDerR.step (Ob.loadV (Wanted.on 7 5) (Has.new 12 0) (fun w1 hb1 => load_dot hb1 L1.out L2.out)) ?_
            refine MDerR.step (Ob.call2V (Wanted.on 7 6) enters177 (Has.new 10 3) (Has.new 13 0) (F.out)) ?_
            refine MDerR.step (Ob.binV (Wanted.on 7 7) (Has.new 14 0) (Has.cst _) (fun w1 => int_lss false (by rw [decide_eq_false_iff_not]; omega))) ?_
            refine MDerR.step (Ob.pickT (Wanted.on 3 12) (Has.new 7 8) (Has.new 15 0)) ?_
            refine MDerR.step (Ob.pickF Wanted.free (Has.new 3 13) (Has.new 16 0)) ?_
            refine MDerR.step (Ob.assign Wanted.free (Has.new 17 0)) ?_
            simp only [MDerR, dstsOf, List.map, EndM, List.reverse_cons, List.reverse_nil, List.nil_append, List.cons_append]
            intro wE hE
            iterate 19 (rintro _ rfl)
            simp only [Act.put, List.setIfInBounds_toArray, List.set_cons_zero, List.set_cons_succ]
            have H2 := Lib.hid (H.out.mono hE); have K3 := Lib.hid (cellKeep hE K1.out); have K4 := Lib.hid (cellKeep hE K2.out); have L3 := Lib.hid (cellKeep hE L1.out); have L4 := Lib.hid (cellKeep hE L2.out)
            have F1 := Lib.hid (fun w1 (h : Below wE.heap.size wE w1) => F.out w1 (hE.le h))
            clear H K1 K2 L1 L2 F hE
            go_wp2_with fail
            refine wp_region_M mixed (by kernel_rfl) ?_
            refine MDerR.step (Ob.move Wanted.free Has.oldIs) ?_
            refine MDerR.step (Ob.lenV Wanted.free (Has.new 0 0) (fun w1 => len_dots)) ?_
            refine MDerR.step (Ob.binV Wanted.free (Has.new 1 0) (Has.cst _) (fun w1 => int_eql false Z1.out)) ?_
            refine MDerR.step (Ob.move Wanted.free (Has.new 2 0)) ?_
            refine MDerR.step (Ob.move (Wanted.on 3 0) Has.oldIs) ?_
            refine MDerR.step (Ob.indexV (Wanted.on 3 1) (Has.new 4 0) (Has.cst _) (fun w1 => IX.out w1)) ?_
            refine MDerR.step (Ob.loadV (Wanted.on 3 2) (Has.new 5 0) (fun w1 hb1 => load_dot hb1 K3.out K4.out)) ?_
            refine MDerR.step (Ob.move (Wanted.on 3 3) Has.oldIs) ?_
            refine MDerR.step (Ob.indexV (Wanted.on 3 4) (Has.new 7 0) (Has.cst _) (fun w1 => IX2.out w1)) ?_
            refine MDerR.step (Ob.loadV (Wanted.on 3 5) (Has.new 8 0) (fun w1 hb1 => load_dot hb1 L3.out L4.out)) ?_
            refine MDerR.step (Ob.call2V (Wanted.on 3 6) enters177 (Has.new 6 3) (Has.new 9 0) (F1.out)) ?_
            refine MDerR.step (Ob.binV (Wanted.on 3 7) (Has.new 10 0) (Has.cst _) (fun w1 => int_gtr true (by rw [decide_eq_true_iff]; omega))) ?_
            refine MDerR.step (Ob.pickF Wanted.free (Has.new 3 8) (Has.new 11 0)) ?_
            refine MDerR.step (Ob.assign Wanted.free (Has.new 12 0)) ?_
            simp only [MDerR, dstsOf, List.map, EndM, List.reverse_cons, List.reverse_nil, List.nil_append, List.cons_append]
            intro wE hE
            iterate 14 (rintro _ rfl)
            simp only [Act.put, List.setIfInBounds_toArray, List.set_cons_zero, List.set_cons_succ]
            have H3 := Lib.hid (H2.out.mono hE); have K5 := cellKeep hE L3.out; have K6 := cellKeep hE L4.out
            clear H2 K3 K4 L3 L4 F1 hE
            have F := Lib.hid (dkeepK (x := x2) (y := y2) H3.out HLEN.out)
            have ix := IX2.out; have sl := SL2.out
            go_wp2_with (go_at_call 230; ((with_reducible refine F.out.mono ?_); rintro e w3 ⟨rfl, v3, hk3⟩; have H4 := Lib.hid (H3.out.second (merge_second HL.out HL2.out) hk3); clear hk3 H3 F K5 K6 ix))
            go_roundw
            case rel => exact ⟨_, _, _, _, _, _, _, _, _, _, rfl, rfl, H4.out⟩
            case measure => simp [lenOf]; omega
          | false =>
            have hcmp : ¬ 0 < cmpD (x, y) (x2, y2) := by rw [hgt, hl2]; simp
            clear hgt
            generalize cmpD (x, y) (x2, y2) = r at *
            have HL := Lib.hid hl; have HL2 := Lib.hid hl2; have F := Lib.hid f; clear hl hl2 f
            go_wp2_with fail
            refine wp_region_M mixed (by kernel_rfl) ?_
            refine MDerR.step (Ob.move Wanted.free Has.oldIs) ?_
            refine MDerR.step (Ob.lenV Wanted.free (Has.new 0 0) (fun w1 => len_dots)) ?_
            refine MDerR.step (Ob.binV Wanted.free (Has.new 1 0) (Has.cst _) (fun w1 => int_eql false Z2.out)) ?_
            refine MDerR.step (Ob.move Wanted.free (Has.new 2 0)) ?_
            refine MDerR.step (Ob.move (Wanted.on 3 0) Has.oldIs) ?_
            refine MDerR.step (Ob.lenV (Wanted.on 3 1) (Has.new 4 0) (fun w1 => len_dots)) ?_
            refine MDerR.step (Ob.binV (Wanted.on 3 2) (Has.new 5 0) (Has.cst _) (fun w1 => int_gtr true G1.out)) ?_
            refine MDerR.step (Ob.move (Wanted.on 3 3) (Has.new 6 0)) ?_
            refine MDerR.step (Ob.move (Wanted.on 7 0) Has.oldIs) ?_
            refine MDerR.step (Ob.indexV (Wanted.on 7 1) (Has.new 8 0) (Has.cst _) (fun w1 => IX.out w1)) ?_
            refine MDerR.step (Ob.loadV (Wanted.on 7 2) (Has.new 9 0) (fun w1 hb1 => load_dot hb1 K1.out K2.out)) ?_
            refine MDerR.step (Ob.move (Wanted.on 7 3) Has.oldIs) ?_
            refine MDerR.step (Ob.indexV (Wanted.on 7 4) (Has.new 11 0) (Has.cst _) (fun w1 => IX2.out w1)) ?_
            refine MDerR.step (Ob.loadV (Wanted.on 7 5) (Has.new 12 0) (fun w1 hb1 => load_dot hb1 L1.out L2.out)) ?_
            refine MDerR.step (Ob.call2V (Wanted.on 7 6) enters177 (Has.new 10 3) (Has.new 13 0) (F.out)) ?_
            refine MDerR.step (Ob.binV (Wanted.on 7 7) (Has.new 14 0) (Has.cst _) (fun w1 => int_lss false (by rw [decide_eq_false_iff_not]; omega))) ?_
            refine MDerR.step (Ob.pickT (Wanted.on 3 12) (Has.new 7 8) (Has.new 15 0)) ?_
            refine MDerR.step (Ob.pickF Wanted.free (Has.new 3 13) (Has.new 16 0)) ?_
            refine MDerR.step (Ob.assign Wanted.free (Has.new 17 0)) ?_
            simp only [MDerR, dstsOf, List.map, EndM, List.reverse_cons, List.reverse_nil, List.nil_append, List.cons_append]
            intro wE hE
            iterate 19 (rintro _ rfl)
            simp only [Act.put, List.setIfInBounds_toArray, List.set_cons_zero, List.set_cons_succ]
            have H2 := Lib.hid (H.out.mono hE); have K3 := Lib.hid (cellKeep hE K1.out); have K4 := Lib.hid (cellKeep hE K2.out); have L3 := Lib.hid (cellKeep hE L1.out); have L4 := Lib.hid (cellKeep hE L2.out)
            have F1 := Lib.hid (fun w1 (h : Below wE.heap.size wE w1) => F.out w1 (hE.le h))
            clear H K1 K2 L1 L2 F hE
            go_wp2_with fail
            refine wp_region_M mixed (by kernel_rfl) ?_
            refine MDerR.step (Ob.move Wanted.free Has.oldIs) ?_
            refine MDerR.step (Ob.lenV Wanted.free (Has.new 0 0) (fun w1 => len_dots)) ?_
            refine MDerR.step (Ob.binV Wanted.free (Has.new 1 0) (Has.cst _) (fun w1 => int_eql false Z1.out)) ?_
            refine MDerR.step (Ob.move Wanted.free (Has.new 2 0)) ?_
            refine MDerR.step (Ob.move (Wanted.on 3 0) Has.oldIs) ?_
            refine MDerR.step (Ob.indexV (Wanted.on 3 1) (Has.new 4 0) (Has.cst _) (fun w1 => IX.out w1)) ?_
            refine MDerR.step (Ob.loadV (Wanted.on 3 2) (Has.new 5 0) (fun w1 hb1 => load_dot hb1 K3.out K4.out)) ?_
            refine MDerR.step (Ob.move (Wanted.on 3 3) Has.oldIs) ?_
            refine MDerR.step (Ob.indexV (Wanted.on 3 4) (Has.new 7 0) (Has.cst _) (fun w1 => IX2.out w1)) ?_
            refine MDerR.step (Ob.loadV (Wanted.on 3 5) (Has.new 8 0) (fun w1 hb1 => load_dot hb1 L3.out L4.out)) ?_
            refine MDerR.step (Ob.call2V (Wanted.on 3 6) enters177 (Has.new 6 3) (Has.new 9 0) (F1.out)) ?_
            refine MDerR.step (Ob.binV (Wanted.on 3 7) (Has.new 10 0) (Has.cst _) (fun w1 => int_gtr false (by rw [decide_eq_false_iff_not]; omega))) ?_
            refine MDerR.step (Ob.pickF Wanted.free (Has.new 3 8) (Has.new 11 0)) ?_
            refine MDerR.step (Ob.assign Wanted.free (Has.new 12 0)) ?_
            simp only [MDerR, dstsOf, List.map, EndM, List.reverse_cons, List.reverse_nil, List.nil_append, List.cons_append]
            intro wE hE
            iterate 14 (rintro _ rfl)
            simp only [Act.put, List.setIfInBounds_toArray, List.set_cons_zero, List.set_cons_succ]
            have H3 := Lib.hid (H2.out.mono hE); have K5 := cellKeep hE K3.out; have K6 := cellKeep hE K4.out
            clear H2 K3 K4 L3 L4 F1 hE
            have F := Lib.hid (dkeepK (x := x) (y := y) H3.out HLEN.out)
            have ix := IX.out
            go_wp2_with (go_at_call 230; ((with_reducible refine F.out.mono ?_); rintro e w3 ⟨rfl, v3, hk3⟩; have H4 := Lib.hid (H3.out.both (merge_both HL.out HL2.out) hk3); clear hk3 H3 F K5 K6 ix))
            refine wp_region_M mixed (by kernel_rfl) ?_
            refine MDerR.step (Ob.move Wanted.free (Has.late 4)) ?_
            refine MDerR.step (Ob.sliceFrom_dots Wanted.free (Has.new 0 0) (Has.cst _) hn1 hc1 (k := 1)) ?_
            refine MDerR.step (Ob.move Wanted.free (Has.late 5)) ?_
            refine MDerR.step (Ob.sliceFrom_dots Wanted.free (Has.new 2 0) (Has.cst _) hn2 hc2 (k := 1)) ?_
            refine MDerR.step (Ob.assign Wanted.free (Has.new 1 2)) ?_
            refine MDerR.step (Ob.assign Wanted.free (Has.new 3 1)) ?_
            simp only [MDerR, dstsOf, List.map, EndM, List.reverse_cons, List.reverse_nil, List.nil_append, List.cons_append]
            intro wE hE
            iterate 6 (rintro _ rfl)
            simp only [Act.put, List.setIfInBounds_toArray, List.set_cons_zero, List.set_cons_succ]
            go_wp2
            go_roundw
            case rel => exact ⟨_, _, _, _, _, _, _, _, _, _, rfl, rfl, H4.out.mono hE⟩
            case measure => simp [lenOf]; omega
end Go.Proofs.YtphhhnjeojdnkaaGreatDoor

/-
  dot.Union.
-/
namespace Go.Proofs.YtphhhnjeojdnkaaGreatDoor
open Go.RowKit
theorem dunion (A A' : Option Addr) (n c m d : Nat) (a b : List Dot) (w : World) (ha : Dots w A n c a) (hb : Dots w A' m d b) (hs : Small (n + m)) :
    Calls Tryz.prog 190 #[.slice A n c, .slice A' m d] w (Ret w (IsRow w.heap.size (unionD a b))) := by
  have hb0 : Below w.heap.size w (w.alloc (.cells #[.slice none 0 0] 57)) := (Below.refl _ _).alloc (Nat.le_refl _) _
  have F := Lib.hid (dparts w.heap.size (w.heap.size + 1) A A' n c m d a b (w.alloc (.cells #[.slice none 0 0] 57)) (ha.mono hb0) (hb.mono hb0) hs (by omega) (by simp) (by simp [go_sem]) (by simp [go_sem]))
  have HB0 := Lib.hid hb0
  clear ha hb hb0
  go_enter Tryz.func190, Tryz.ntmps190
  go_wp2_with (go_at_call 231; ((with_reducible refine F.out.mono ?_); rintro e w1 ⟨rfl, hb1, hf1, v, hc1, hr1⟩; obtain ⟨A1, c1, rfl, hd1⟩ := Row.dots hr1; have HB1 := Lib.hid hb1; have HR := Lib.hid hr1; clear hb1 hr1 hd1))
  have hcs := cell_set (v := .slice A1 (unionD a b).length c1) hc1
  refine bodyPost_ret (v := .slice A1 (unionD a b).length c1) (by simp [results, Tryz.results190, go_sem, hcs]) rfl ?_
  refine ⟨_, rfl, (HB0.out.trans HB1.out).setCell (p := ⟨w.heap.size, 0, none⟩) (by simp) _, ?_⟩
  exact Row.low (Row.set_ HR.out (p := ⟨w.heap.size, 0, none⟩) (fun k hk => by have := Row.own w1 HR.out k hk; show k ≠ w.heap.size; omega) _) (by omega)
theorem entersDUnion : Enters Tryz.prog 190 := enters_of Tryz.func190 (by kernel_rfl) rfl
end Go.Proofs.YtphhhnjeojdnkaaGreatDoor

/-
  slices.Grow of nil, slices.Concat of two vectors.
-/
namespace Go.Proofs.YtphhhnjeojdnkaaGreatDoor
open Go.RowKit
theorem wpList_appRun {ops : Array Oper} {rest : List Oper} {o : Oper} {a : Act} {Q : Exit -> Act -> World -> Prop} {s x : Operand} {t u : TypeId} {w w' : World} {v y v' : Value}
    (hgd : o.guard = none) (ho : o.op = .call { callee := .builtin .append, args := #[s, x], argTypes := #[t, u] }) (hsv : a.eval s = v) (hxv : a.eval x = y)
    (hr : ∀ ty, (Builtin.append_ #[t, u] ty #[v, y]).run Tryz.prog w = .ok v' w') (K : wpList Tryz.prog ops Q rest (a.put o.dst v') w') : wpList Tryz.prog ops Q (o :: rest) a w := by
  refine wpList_plain hgd fun K' hK => ?_
  unfold Oper.wp
  simp [execOp, ho, resolve, invoke, builtin, hsv, hxv, hr, Result.andThen]
  exact hK _ _ K
theorem vgrow (n : Nat) (w : World) (hs : Small n) :
    Calls Tryz.prog 268 #[.slice none 0 0, .int .i64 (n : Int)] w (Ret w (IsRow w.heap.size [])) := by
  have hn := hs.out
  have h1 : ¬ ((n : Int) < 0) := by omega
  by_cases h0 : n = 0
  · subst h0
    go_enter Tryz.func268, Tryz.ntmps268
    go_wp2
    go_ret
    exact ⟨_, rfl, Below.refl _ _, Row.nil_ _ _⟩
  · have h4 : decide ((n : Int) > 0) = true := by rw [decide_eq_true_iff]; omega
    obtain ⟨i, hi, hz, hsz, hby⟩ := info_dot
    have hrz : ∀ ty, (Builtin.append_ #[58, 3] ty #[.slice none 0 0, .int .i64 (n : Int)]).run Tryz.prog w =
        .ok (.slice (some ⟨w.heap.size, 0, none⟩) n (grownCap w n 0 67)) (w.drew.alloc (.cells (#[] ++ Builtin.zeroCells (Value.agg #[.int .i64 0, .int .i64 0]).cells n ++ Builtin.zeroCells (Value.agg #[.int .i64 0, .int .i64 0]).cells (grownCap w n 0 67 - n)) 67)) := fun ty => by
      have h := Lib.run_append_grow_zeros w 58 3 ty 67 i (.agg #[.int .i64 0, .int .i64 0]) .i64 .i64 Tryz.underlying58 Tryz.underlying3 hi hz none 0 0 [] (run_firstCells_none w.drew i.size 0 0 0) n (by omega) (by omega) (by omega) (by omega) (by rw [hby]; omega) (by rw [hby]; exact growslice_fits (by omega) (by omega))
      rw [Nat.zero_add] at h
      exact h
    have hge : n <= grownCap w n 0 67 := grownCap_ge w _ _ _
    have hmx : grownCap w n 0 67 <= maxLen := grownCap_le_maxLen w n 0 67 (by unfold maxLen; omega)
    have hsize : ((#[] : Array Value) ++ Builtin.zeroCells (Value.agg #[.int .i64 0, .int .i64 0]).cells n ++ Builtin.zeroCells (Value.agg #[.int .i64 0, .int .i64 0]).cells (grownCap w n 0 67 - n)).size = grownCap w n 0 67 * 2 := by
      simp [Builtin.zeroCells, Value.cells]; omega
    generalize grownCap w n 0 67 = G at *
    generalize (#[] : Array Value) ++ Builtin.zeroCells (Value.agg #[.int .i64 0, .int .i64 0]).cells n ++ Builtin.zeroCells (Value.agg #[.int .i64 0, .int .i64 0]).cells (G - n) = Z at *
    have HS := Lib.hid hsize; have HM := Lib.hid hmx; have HG := Lib.hid hge
    have hG : G <= 9223372036854775807 := by unfold maxLen at hmx; omega
    have HRZ := Lib.hid hrz
    clear hsize hmx hi hz hsz hby hrz
    go_enter Tryz.func268, Tryz.ntmps268
    go_wp2_with (at_builtin; refine wpList_appRun (v := .slice none 0 0) (y := .int .i64 (n : Int)) rfl rfl rfl rfl HRZ.out ?_; simp only [Act.put, List.setIfInBounds_toArray, List.set_cons_zero, List.set_cons_succ])
    go_ret
    refine ⟨_, rfl, (Below.refl _ w).drew.trans ((Below.refl _ _).alloc (by simp) _), ?_⟩
    exact ⟨rfl, .inr ⟨w.heap.size, G, Z, rfl, Nat.le_refl _, heap_alloc_new _ _, Nat.zero_le _, HM.out, HS.out, by simp [dcells]⟩⟩
def ConcatRel (B : Nat) (w : World) (a b : List Dot) (v i : Value) (wr : World) : Prop :=
  ∃ (k : Nat) (acc : List Dot), i = .int .i64 k ∧ k <= 2 ∧ Row wr B v acc ∧ Below B w wr ∧ B <= wr.heap.size ∧ (k = 0 ∧ acc = [] ∨ k = 1 ∧ acc = a ∨ k = 2 ∧ acc = a ++ b)
theorem vconcat (A A' : Option Addr) (n c m d g : Nat) (a b : List Dot) (w : World) (ha : Dots w A n c a) (hb : Dots w A' m d b) (hs : Small (n + m)) (h0 : w.cell? ⟨g, 0, none⟩ = some (.slice A n c)) (h1 : w.cell? ⟨g, 1, none⟩ = some (.slice A' m d)) :
    Calls Tryz.prog 264 #[.slice (some ⟨g, 0, none⟩) 2 2] w (Ret w (IsRow w.heap.size (a ++ b))) := by
  have hsn := hs.out
  have HA := Lib.hid ha; have HD := Lib.hid hb; have H0 := Lib.hid h0; have H1 := Lib.hid h1
  have e0 : ((n : Int) + (m : Int)) = ((n + m : Nat) : Int) := by simp
  have F := Lib.hid (fun w => by have h := vgrow (n + m) w hs; rw [<- e0] at h; exact h : ∀ w, Calls Tryz.prog 268 #[.slice none 0 0, .int .i64 ((n : Int) + (m : Int))] w (Ret w (IsRow w.heap.size [])))
  clear ha hb e0
  go_enter Tryz.func264, Tryz.ntmps264
  go_wp2
  refine wp_loop_rounds 3 ?_
  rw [rounds_succ]; go_wp2
  rw [rounds_succ]; go_wp2
  rw [rounds_succ]; go_wp2_with fail
  refine (F.out _).mono ?_
  rintro e w1 ⟨v1, rfl, hb1, hr1⟩
  have HB1 := Lib.hid hb1; have HR1 := Lib.hid hr1
  have hsz := hb1.size
  clear hb1 hr1 F
  go_wp2
  go_loopw [6, 27] (fun v i wr => ConcatRel w.heap.size w a b v i wr) (fun _ i _ => 2 - (intOf i).toNat)
  case atStart => exact ⟨0, [], rfl, by omega, HR1.out, HB1.out, hsz, .inl ⟨rfl, rfl⟩⟩
  case round =>
    clear HR1
    obtain ⟨k, acc, rfl, hk, hr, hb, hB, hcase⟩ := hrel
    have HR := Lib.hid hr; have HB := Lib.hid hb
    clear hr hb
    rcases hcase with ⟨rfl, rfl⟩ | ⟨rfl, rfl⟩ | ⟨rfl, rfl⟩
    · have k0 := cellKeep HB.out H0.out
      have hd := Lib.hid (HA.out.mono HB.out)
      go_wp2_with (at_builtin; refine wpList_app (B := w.heap.size) (l := []) rfl rfl Tryz.underlying58 rfl rfl HR.out hd.out (by have := hd.out.len; simp; omega) hB ?_; intro v' w' hr' hg'; have HG := Lib.hid (HB.out.grown hg' hB (fun q hq => Row.own _ HR.out q hq)); have HR' := Lib.hid hr'; have hB' := Nat.le_trans hB hg'.size; clear hr' hg'; simp only [Act.put, List.setIfInBounds_toArray, List.set_cons_zero, List.set_cons_succ])
      go_roundw
      case rel => exact ⟨1, a, rfl, by omega, HR'.out, HG.out, hB', .inr (.inl ⟨rfl, rfl⟩)⟩
      case measure => simp [intOf]
    · have k0 := cellKeep HB.out H1.out
      have hd := Lib.hid (HD.out.mono HB.out)
      go_wp2_with (at_builtin; refine wpList_app (B := w.heap.size) (l := acc) rfl rfl Tryz.underlying58 rfl rfl HR.out hd.out (by have := hd.out.len; have := HA.out.len; omega) hB ?_; intro v' w' hr' hg'; have HG := Lib.hid (HB.out.grown hg' hB (fun q hq => Row.own _ HR.out q hq)); have HR' := Lib.hid hr'; have hB' := Nat.le_trans hB hg'.size; clear hr' hg'; simp only [Act.put, List.setIfInBounds_toArray, List.set_cons_zero, List.set_cons_succ])
      go_roundw
      case rel => exact ⟨2, acc ++ b, rfl, by omega, HR'.out, HG.out, hB', .inr (.inr ⟨rfl, rfl⟩)⟩
      case measure => simp [intOf]
    · go_wp2
      go_ret
      exact ⟨_, rfl, HB.out, HR.out⟩
end Go.Proofs.YtphhhnjeojdnkaaGreatDoor

/-
  PLAIN: a map of counters, and a walk over it: what vector.made makes.
-/
namespace Go.Proofs.YtphhhnjeojdnkaaGreatDoor
open Go.RowKit Go.Maps
abbrev DU := DataW Unit
abbrev numL (c : Int) : DU := .lit (.int .i64 c)
theorem numL_inj {a b : Int} (h : numL a = numL b) : a = b := by cases h; rfl
structure MapAt (D : DU) (l : List Dot) : Prop where
  isMap : Maps.IsMap D
  keys : ∀ r, Maps.has D (.int .i64 r) = l.any (fun d => d.1 == r)
  vals : ∀ r, D.atKey (.int .i64 r) (numL 0) = numL (mostI l r 0)
theorem mostI_snoc (l : List Dot) (d : Dot) (r m : Int) : mostI (l ++ [d]) r m = if r = d.1 then max (mostI l r m) d.2 else mostI l r m := by unfold mostI; rw [List.foldl_append]; rfl
theorem MapAt.nil_ : MapAt (.map []) [] := ⟨Maps.isMap_empty, fun _ => rfl, fun _ => rfl⟩
theorem key_int (x : Int) : WideAt.IsKeyLit (.int .i64 x) := trivial
theorem MapAt.put {D : DU} {l : List Dot} (h : MapAt D l) (x y c : Int) (hc : D.atKey (.int .i64 x) (numL 0) = numL c) : MapAt (D.put (.int .i64 x) (numL (max c y))) (l ++ [(x, y)]) := by
  have ec : c = mostI l x 0 := by exact (numL_inj ((h.vals x).symm.trans hc)).symm
  refine ⟨h.isMap.put _ _, fun r => ?_, fun r => ?_⟩
  · rw [List.any_append]
    by_cases e : r = x
    · subst e
      rw [Maps.has_put_same h.isMap (key_int r)]; simp
    · rw [Maps.has_put_other (fun h => e (by cases h; rfl)), h.keys r]
      have : ((x == r) : Bool) = false := by rw [beq_eq_false_iff_ne]; exact fun h => e h.symm
      simp [this]
  · rw [mostI_snoc]
    by_cases e : r = x
    · subst e
      rw [Maps.atKey_put_same h.isMap (key_int r), if_pos rfl, ec]
    · rw [Maps.atKey_put_other (fun h => e (by cases h; rfl)), h.vals r, if_neg e]
structure LeftAt (D : DU) (left : Lit -> Bool) (acc : List Dot) : Prop where
  keys : ∀ r, Maps.has D (.int .i64 r) = (left (.int .i64 r) || acc.any (fun d => d.1 == r))
  vals : ∀ d ∈ acc, ∀ z, D.atKey (.int .i64 d.1) z = numL d.2
  apart : acc.Pairwise (fun a b => a.1 ≠ b.1)
  gone : ∀ d ∈ acc, left (.int .i64 d.1) = false
theorem LeftAt.start (D : DU) : LeftAt D (Maps.has D) [] := ⟨fun r => by simp, (fun d hd => nomatch hd), List.Pairwise.nil, (fun d hd => nomatch hd)⟩
theorem same_int (r x : Int) : (Lit.int .i64 r).sameKey (.int .i64 x) = (r == x) := by
  by_cases e : r = x
  · subst e; rw [WideAt.sameKey_self (key_int r)]; simp
  · rw [Maps.sameKey_ne (fun h => e (by cases h; rfl)), eq_comm, beq_eq_false_iff_ne]; exact e
theorem LeftAt.next {D : DU} {left : Lit -> Bool} {acc : List Dot} (h : LeftAt D left acc) (x c : Int) (hx : left (.int .i64 x) = true) (hat : ∀ zd, D.atKey (.int .i64 x) zd = numL c) : LeftAt D (fun z => left z && !z.sameKey (.int .i64 x)) (acc ++ [(x, c)]) := by
  have hne : ∀ d ∈ acc, d.1 ≠ x := fun d hd e => by have := h.gone d hd; rw [e, hx] at this; cases this
  refine ⟨fun r => ?_, fun d hd => ?_, ?_, fun d hd => ?_⟩
  · rw [h.keys r, List.any_append]
    show _ = ((left (.int .i64 r) && !(Lit.int .i64 r).sameKey (.int .i64 x)) || _)
    rw [same_int]
    by_cases e : r = x
    · subst e; simp [hx]
    · have h1 : ((r == x) : Bool) = false := by rw [beq_eq_false_iff_ne]; exact e
      have h2 : ((x == r) : Bool) = false := by rw [beq_eq_false_iff_ne]; exact fun h => e h.symm
      simp [h1, h2]
  · rcases List.mem_append.1 hd with hd | hd
    · exact h.vals d hd
    · rw [List.mem_singleton.1 hd]; exact hat
  · rw [List.pairwise_append]
    exact ⟨h.apart, by simp, fun a ha b hb => by rw [List.mem_singleton.1 hb]; exact hne a ha⟩
  · show (left (.int .i64 d.1) && _) = false
    rcases List.mem_append.1 hd with hd | hd
    · rw [h.gone d hd]; rfl
    · rw [List.mem_singleton.1 hd, same_int]; simp
theorem made_of {D : DU} {left : Lit -> Bool} {l acc l' : List Dot} (hm : MapAt D l) (h : LeftAt D left acc) (hl : ∀ kl, left kl = false) (hv : validL l = true) (hs : SortOf (ltOf keyV) acc l') : l' = madeV l := by
  obtain ⟨m1, m2, m3⟩ := made_spec hv
  have hap : l'.Pairwise (fun a b => a.1 ≠ b.1) := (hs.1.pairwise_iff (fun {a b} (h : a.1 ≠ b.1) => h.symm)).2 h.apart
  have hinc : Inc l' := by
    have h2 := hap.and hs.2
    refine h2.imp fun {a b} ⟨h1, h3⟩ => ?_
    rw [lt_key] at h3
    have := of_decide_eq_false h3
    omega
  have hmem : ∀ d ∈ l', (∃ e ∈ l, e.1 = d.1) ∧ d.2 = mostI l d.1 0 := by
    intro d hd
    have hd' := hs.1.mem_iff.1 hd
    have h1 := h.vals d hd' (numL 0)
    rw [hm.vals] at h1
    have h2 := h.keys d.1
    rw [hm.keys, hl, Bool.false_or, Bool.eq_iff_iff, List.any_eq_true, List.any_eq_true] at h2
    obtain ⟨e, he, hee⟩ := h2.2 ⟨d, hd', by simp⟩
    exact ⟨⟨e, he, by simpa using hee⟩, (numL_inj h1).symm⟩
  have hle : ∀ (l : List Dot) (r m : Int), m <= mostI l r m ∧ ∀ e ∈ l, e.1 = r -> e.2 <= mostI l r m := by
    intro l
    induction l with
    | nil => exact fun r m => ⟨Int.le_refl _, fun e he => nomatch he⟩
    | cons a t ih =>
      intro r m
      rw [mostI_cons]
      obtain ⟨i1, i2⟩ := ih r (if r = a.1 then max m a.2 else m)
      refine ⟨by by_cases e : r = a.1; (rw [if_pos e] at i1 ⊢; omega); (rw [if_neg e] at i1 ⊢; omega), fun e he hr => ?_⟩
      rcases List.mem_cons.1 he with rfl | he
      · rw [if_pos hr.symm] at i1 ⊢; omega
      · exact i2 e he hr
  have hval : validL l' = true := validL_of fun d hd => by
    obtain ⟨⟨e, he, hee⟩, h2⟩ := hmem d hd
    have h3 := (hle l d.1 0).2 e he hee
    have h4 := validD_iff.1 (validL_mem hv he)
    have h5 := getV_some (l := madeV l) (r := d.1) (by rw [m3]; omega)
    rw [m3, <- h2] at h5
    exact validL_mem m2 h5
  refine vec_ext hinc m1 hval m2 fun r => ?_
  rw [m3]
  by_cases hr : ∃ d ∈ l', d.1 = r
  · obtain ⟨d, hd, rfl⟩ := hr
    rw [getV_mem hinc hd, (hmem d hd).2]
  · have hno : ∀ a ∈ l', a.1 ≠ r := fun a ha e => hr ⟨a, ha, e⟩
    rw [getV_zero hno]
    have h2 := h.keys r
    rw [hl, Bool.false_or] at h2
    have h3 : acc.any (fun d => d.1 == r) = false := by
      rw [List.any_eq_false]
      intro a ha e
      exact hno a (hs.1.mem_iff.2 ha) (by simpa using e)
    rw [h3] at h2
    have h4 := Maps.atKey_of_not_has h2 (numL 0)
    rw [hm.vals] at h4
    exact (numL_inj h4).symm
theorem owns_size {H : Type} {w : World} {P : Program} {k : TypeId} {R : Value -> Option (DataW H × List MemPlace)} {b n : Nat} {D : DataW H} (h : w.ownsMap P k R b n D) : Maps.size D <= n := by
  obtain ⟨es, clock, _, _, hs, rfl⟩ := h
  rw [Maps.size_eq, length_sorted]
  simpa using hs
end Go.Proofs.YtphhhnjeojdnkaaGreatDoor

/-
  vector.made.
-/
namespace Go.Proofs.YtphhhnjeojdnkaaGreatDoor
open Go.RowKit Go.Maps
theorem lawI : Keyed Tryz.prog 3 := int_keyed Tryz.underlying3
theorem zeroI (w : World) : (zeroValue 3).run Tryz.prog w = .ok (.int .i64 0) w := by kernel_rfl
theorem wf_valid {x : Int} (h : 0 <= x ∧ x <= 4294967295) : (Lit.int .i64 x).wf = true := WalkArith.wf_i64 (by omega)
theorem wf_max {a b : Int} (h1 : (Lit.int .i64 a).wf = true) (h2 : (Lit.int .i64 b).wf = true) : (Lit.int .i64 (max a b)).wf = true := by
  rcases Int.le_total a b with h | h
  · rw [Int.max_eq_right h]; exact h2
  · rw [Int.max_eq_left h]; exact h1
def MadeRel (w : World) (n : Nat) (l : List Dot) (i : Value) (wr : World) : Prop :=
  ∃ (k : Nat) (D : DU), i = .int .i64 k ∧ k <= n ∧ wr.ownsMap Tryz.prog 3 (plainElem Tryz.prog 3) w.heap.size k D ∧ Below w.heap.size w wr ∧ MapAt D (l.take k)
def TakeRel (w : World) (D : DU) (n r : Nat) (v : Value) (wr : World) : Prop :=
  ∃ (left : Lit -> Bool) (cnt : Nat) (acc : List Dot), wr.ranges Tryz.prog 3 (plainElem Tryz.prog 3) w.heap.size r n D left cnt ∧ Below w.heap.size w wr ∧ Row wr (r + 1) v acc ∧ r + 1 <= wr.heap.size ∧ acc.length + cnt <= n ∧ LeftAt D left acc
theorem vmade (A : Option Addr) (n c : Nat) (l : List Dot) (w : World) (h : Dots w A n c l) (hs : Small n) (hv : validL l = true) :
    Calls Tryz.prog 263 #[.slice A n c] w (Ret w (IsRow w.heap.size (madeV l))) := by
  have hmm := @run_makeMap Tryz.prog
  have hsn := hs.out
  have hn := h.big
  have HL := Lib.hid h.len
  have H := Lib.hid h; have HV := Lib.hid hv; clear h hv
  go_enter Tryz.func263, Tryz.ntmps263
  go_wp2
  go_loopw [12] (fun i wr => MadeRel w n l i wr) (fun i _ => n - (intOf i).toNat)
  case atStart => exact ⟨0, .map [], rfl, Nat.zero_le _, World.ownsMap_made _ _ _ _, (Below.refl _ _).alloc (Nat.le_refl _) _, MapAt.nil_⟩
  case round =>
    obtain ⟨k, D, rfl, hk, hown, hb, hm⟩ := hrel
    have OWN := Lib.hid hown; have HB := Lib.hid hb; have HM := Lib.hid hm
    clear hown hb hm
    by_cases hlt : k < n
    · obtain ⟨b, o, x, y, rfl, hbk, e0, d1, c1, c2⟩ := (H.out.mono HB.out).at_ (k := k) hlt
      have hxy : validD (x, y) = true := validL_mem HV.out (List.mem_of_getElem? e0)
      have hxy' := validD_iff.1 hxy
      have hx1 : 0 <= x := by omega
      have hx2 : x <= 4294967295 := by omega
      have hy1 : 0 <= y := by omega
      have hy2 : y <= 4294967295 := by omega
      have wfx := Lib.hid (wf_valid ⟨hx1, hx2⟩); have wfy := Lib.hid (wf_valid ⟨hy1, hy2⟩)
      have E0 := Lib.hid e0
      have hzr := World.block_lt_of_cell? wr _ c1
      clear d1 e0 hxy hxy'
      go_wp2_with (first
        | (at_lookup; refine wpList_lookup_own_int _ rfl _ _ 298 rfl 3 3 .i64 lawI Tryz.underlying298 Tryz.underlying3 (zeroI _) w.heap.size k _ rfl (OWN.out.alloc _) _ _ rfl (keyOf_int_mk Tryz.underlying3 wfx.out) ?_; intro c0 hat hwc; have HAT := Lib.hid hat; have HWC := Lib.hid hwc; clear hat hwc)
        | (at_mapUpdate; refine wpList_mapUpdate_own _ rfl _ _ _ 298 rfl 3 3 lawI Tryz.underlying298 _ w.heap.size k _ rfl (OWN.out.alloc _) (by unfold maxLen; omega) _ _ _ rfl rfl (keyOf_int_mk Tryz.underlying3 wfx.out) _ [] (plainElem_int Tryz.underlying3 (wf_max HWC.out wfy.out)) ?_; intro w1 hown1 hgrow1; have OWN1 := Lib.hid hown1; have HG1 := Lib.hid hgrow1; clear hown1 hgrow1)
        | go_in)
      go_roundw
      case rel => exact ⟨k + 1, _, by simp, hlt, OWN1.out, ((HB.out.alloc HB.out.size _).grown HG1.out (by have := HB.out.size; simp; omega) (fun q hq => by cases hq; exact Nat.le_refl _)), by rw [take_snoc E0.out]; exact HM.out.put x y c0 HAT.out⟩
      case measure => simp [intOf]; omega
    · have hm : MapAt D l := by have := HM.out; rwa [List.take_of_length_le (by rw [<- HL.out]; omega)] at this
      have HM2 := Lib.hid hm
      have hown := OWN.out.mono hk
      have OWN2 := Lib.hid hown
      clear hm HM OWN hown
      go_wp2_with (first
        | (at_range; refine wpList_range_own _ rfl _ 298 rfl 3 3 lawI Tryz.underlying298 _ w.heap.size n D rfl OWN2.out ?_; intro w0 hrg0 hg0 hs0; have RG0 := Lib.hid hrg0; have HG0 := Lib.hid hg0; have HS0 := Lib.hid hs0; clear hrg0 hg0 hs0)
        | go_in)
      go_frame
      have hbw : Below w.heap.size w w0 := HB.out.grown HG0.out HB.out.size (fun q hq => nomatch hq)
      have start : TakeRel w D n wr.heap.size (.slice none 0 0) w0 := ⟨_, _, [], RG0.out, hbw, Row.nil_ _ _, by rw [HS0.out]; omega, by have := owns_size OWN2.out; simp; omega, LeftAt.start D⟩
      have START := Lib.hid start
      have hbr := OWN2.out.lt
      clear start hbw RG0 HG0 HS0
      generalize wr.heap.size = r at *
      go_loopw [6] (fun v w2 => TakeRel w D n r v w2) (fun _ w2 => w2.rangeLeft w.heap.size r)
      case atStart => exact START.out
      case round =>
        clear START
        obtain ⟨left, cnt, acc, hrg, hb2, hrow, hr2, hcnt, hleft⟩ := hrel
        have RG := Lib.hid hrg; have HB2 := Lib.hid hb2; have ROW := Lib.hid hrow; have LEFT := Lib.hid hleft
        clear hrg hb2 hrow hleft
        go_wp2_with (first
          | (at_next; refine wpList_next_ranges_ii _ rfl _ rfl 3 3 .i64 .i64 lawI Tryz.underlying3 Tryz.underlying3 w.heap.size r n _ _ _ rfl RG.out ?_ ?_)
          | go_in)
        · intro _ hl0
          have HL0 := Lib.hid hl0
          clear hl0
          have F := Lib.hid (vsort (r + 1) u6 acc wr ROW.out (by unfold Small; omega))
          go_wp2_with (go_at_call 266; ((with_reducible refine F.out.mono ?_); rintro e w1 ⟨rfl, hb3, l', hso, hr3⟩; have HB3 := Lib.hid hb3; have HSO := Lib.hid hso; have HR3 := Lib.hid hr3; clear hb3 hso hr3))
          go_ret
          have e := made_of HM2.out LEFT.out HL0.out HV.out HSO.out
          exact ⟨_, rfl, HB2.out.trans (HB3.out.mono (by omega)), by rw [<- e]; exact Row.low HR3.out (by omega)⟩
        · intro x c w1 cnt1 hwx hwc hlx hat hrg1 hlt hg1 hs1 hen
          have hle := LEFT.out.next x c hlx hat
          have hro : Row w1 (r + 1) u6 acc := Row.grown ROW.out hg1 (.inr (fun e => by have := Row.own _ ROW.out r e; omega))
          have hd := Dots.one w1 x c
          rw [hs1] at hd
          have hb3 : Below w.heap.size w w1 := HB2.out.grown hg1 HB2.out.size (fun q hq => by cases hq; omega)
          have RG1 := Lib.hid hrg1; have LE := Lib.hid hle; have RO := Lib.hid hro; have D1 := Lib.hid hd; have HB3 := Lib.hid hb3; have LT := Lib.hid hlt; have HS1 := Lib.hid hs1
          clear hlx hat hrg1 hlt hg1 hle hro hd hb3 ROW LEFT hwx hwc
          go_wp2_with (at_builtin; refine wpList_app (B := r + 1) (l := acc) (k := [(x, c)]) rfl rfl Tryz.underlying58 rfl rfl (Row.mono RO.out (by go_grown)) D1.out (by simp; omega) (by simp; omega) ?_; intro v' w' hr' hg'; have HR' := Lib.hid hr'; have HG' := Lib.hid hg'; clear hr' hg'; simp only [Act.put, List.setIfInBounds_toArray, List.set_cons_zero, List.set_cons_succ])
          have hlow : ∀ q, u6.ownBlock = some q -> r + 1 <= q := fun q hq => Row.own _ RO.out q hq
          have hrgn := (RG1.out.alloc (.cells #[.int .i64 x, .int .i64 c] 67)).kept HG'.out (fun e => by have := hlow _ e.symm; omega) (fun e => by have := hlow _ e.symm; omega)
          go_roundw
          case rel => exact ⟨_, cnt1, acc ++ [(x, c)], hrgn, (HB3.out.alloc HB3.out.size _).grown HG'.out (by have := HB3.out.size; simp; omega) (fun q hq => by have := hlow q hq; omega), HR'.out, Nat.le_trans (by simp; omega) HG'.out.size, by have := LT.out; simp; omega, LE.out⟩
          case measure => rw [hrgn.left_eq, RG.out.left_eq]; exact LT.out
end Go.Proofs.YtphhhnjeojdnkaaGreatDoor

/-
  vector.Merge, vector.Raise.
-/
namespace Go.Proofs.YtphhhnjeojdnkaaGreatDoor
open Go.RowKit
def IsPair (F : VT) (k : Int) (w : World) (v : Value) : Prop := ∃ x, v = .tuple #[x, .int .i64 k] ∧ F w x
instance (F : VT) [hF : Grows F] (k : Int) : Grows (IsPair F k) := ⟨fun hb ⟨x, e, h⟩ => ⟨x, e, hF.up hb h⟩⟩
theorem vmerge (A A' : Option Addr) (n c m d : Nat) (a b : List Dot) (w : World) (ha : Dots w A n c a) (hb : Dots w A' m d b) (hs : Small (n + m)) (va : validV a = true) (vb : validV b = true) :
    Calls Tryz.prog 254 #[.slice A n c, .slice A' m d] w (Ret w (IsPair (IsRow w.heap.size (mergeV a b)) 0)) := by
  have f1 := vvalid A n c a w ha
  rw [va] at f1
  have F1 := Lib.hid f1; have HA := Lib.hid ha; have HB := Lib.hid hb; have VA := Lib.hid va; have VB := Lib.hid vb
  clear f1 ha hb va vb
  go_enter Tryz.func254, Tryz.ntmps254
  go_wp2_with fail
  refine F1.out.mono ?_
  rintro e w1 ⟨_, rfl, hb1, rfl⟩
  have f2 := vvalid A' m d b w1 (HB.out.mono hb1)
  rw [VB.out] at f2
  have F2 := Lib.hid f2; clear f2 F1
  go_wp2_with fail
  refine F2.out.mono ?_
  rintro e w2 ⟨_, rfl, hb2, rfl⟩
  have hb12 := hb1.le hb2
  have hb3 : Below w.heap.size w (w2.alloc (.cells #[.slice A n c, .slice A' m d] 58)) := hb12.alloc hb12.size _
  have f3 := vconcat A A' n c m d w2.heap.size a b (w2.alloc (.cells #[.slice A n c, .slice A' m d] 58)) (HA.out.mono hb3) (HB.out.mono hb3) hs (by simp [go_sem]) (by simp [go_sem])
  have F3 := Lib.hid f3; have HB3 := Lib.hid hb3
  have hsz := hb3.size
  clear f3 F2 hb12 hb1 hb2 hb3
  go_wp2_with fail
  refine F3.out.mono ?_
  rintro e w3 ⟨v, rfl, hb4, hr⟩
  obtain ⟨A3, n3, c3, rfl, hd3⟩ := IsRow.dots hr
  have hb5 := HB3.out.le hb4
  obtain ⟨i1, v1⟩ : incV a = true ∧ validL a = true := by have := VA.out; unfold validV at this; simpa using this
  obtain ⟨i2, v2⟩ : incV b = true ∧ validL b = true := by have := VB.out; unfold validV at this; simpa using this
  have f4 := vmade A3 n3 c3 (a ++ b) w3 hd3 (by have := hs.out; have := HA.out.len; have := HB.out.len; have := hd3.len; unfold Small; simp at this; omega) (validL_of fun x hx => by rcases List.mem_append.1 hx with h | h; exact validL_mem v1 h; exact validL_mem v2 h)
  rw [made_append ((incV_inc a).1 i1) v1] at f4
  have F4 := Lib.hid f4; have HB5 := Lib.hid hb5
  have hsz2 := hb5.size
  clear f4 F3 hb4 hb5 hr hd3 i1 i2 v1 v2 HB3
  go_wp2_with fail
  refine F4.out.mono ?_
  rintro e w4 ⟨v, rfl, hb6, hr⟩
  have HB6 := Lib.hid (HB5.out.le hb6); have HR := Lib.hid (Row.low hr hsz2)
  clear hb6 hr F4
  go_wp2_with fail
  go_ret2
  exact ⟨_, rfl, HB6.out, _, rfl, HR.out⟩
theorem vraise (x y : Int) (A : Option Addr) (n c : Nat) (l : List Dot) (w : World) (h : Dots w A n c l) (hs : Small (n + 1)) (hv : validV l = true) (hd : validD (x, y) = true) :
    Calls Tryz.prog 229 #[.slice A n c, .agg #[.int .i64 x, .int .i64 y]] w (Ret w (IsPair (IsRow w.heap.size (raiseV l (x, y))) 0)) := by
  have hb0 : Below w.heap.size w ((w.alloc (.cells #[.int .i64 x, .int .i64 y] 67)).alloc (.cells #[.int .i64 x, .int .i64 y] 67)) := by go_grown
  have f1 := vmerge A (some ⟨w.heap.size + 1, 0, none⟩) n c 1 1 l [(x, y)] ((w.alloc (.cells #[.int .i64 x, .int .i64 y] 67)).alloc (.cells #[.int .i64 x, .int .i64 y] 67)) (h.mono hb0) (by have := Dots.one (w.alloc (.cells #[.int .i64 x, .int .i64 y] 67)) x y; simpa using this) hs hv (by unfold validV validL; simp [incV, hd])
  rw [merge_one] at f1
  have F1 := Lib.hid f1; have HB0 := Lib.hid hb0
  clear f1 hb0 h hv hd
  go_enter Tryz.func229, Tryz.ntmps229
  go_wp2_with fail
  refine F1.out.mono ?_
  rintro e w1 ⟨_, rfl, hb1, v, rfl, hr⟩
  have HB1 := Lib.hid (HB0.out.le hb1); have HR := Lib.hid (Row.low hr HB0.out.size)
  clear hb1 hr F1
  go_wp2
  go_ret2
  exact ⟨_, rfl, HB1.out, _, rfl, HR.out⟩
end Go.Proofs.YtphhhnjeojdnkaaGreatDoor

/-
  context.Compact: what holds at the head of its loop.
-/
namespace Go.Proofs.YtphhhnjeojdnkaaGreatDoor
open Go.RowKit
theorem Row.asDots {w : World} {B : Nat} {A : Option Addr} {n c : Nat} {l : List Dot} (h : Row w B (.slice A n c) l) : Dots w A n c l := by
  obtain ⟨A', c', e, hd⟩ := Row.dots h
  cases e; exact hd
theorem Row.upto {w : World} {B : Nat} {v : Value} {l : List Dot} (h : Row w B v l) : ∀ k, v.ownBlock = some k -> k < w.heap.size := fun k hk => (World.ownsRow.lt h k hk).2
structure CAt (b0 N : Nat) (W wr : World) (c s : Ctx) (A1 : Option Addr) (n1 c1 : Nat) (A2 : Option Addr) (n2 c2 : Nat) (l : List Dot) : Prop where
  cell0 : wr.cell? ⟨N, 0, none⟩ = some (.slice A1 n1 c1)
  cell1 : wr.cell? ⟨N, 1, none⟩ = some (.slice A2 n2 c2)
  free : ∀ o, wr.frozen? ⟨N, o, none⟩ = false
  below : Below N W wr
  low : b0 <= N
  r1 : Row wr b0 (.slice A1 n1 c1) s.1
  o1 : ∀ k, (Value.slice A1 n1 c1).ownBlock = some k -> k ≠ N
  r2 : Row wr (N + 1) (.slice A2 n2 c2) s.2
  apart : ∀ k, (Value.slice A1 n1 c1).ownBlock = some k -> (Value.slice A2 n2 c2).ownBlock ≠ some k
  mid : Mid c s l
  big : N + 1 <= wr.heap.size
section
variable {b0 N : Nat} {W wr w1 : World} {c s : Ctx} {A1 A2 A3 : Option Addr} {n1 c1 n2 c2 n3 c3 : Nat} {l t : List Dot} {d : Dot}
theorem CAt.mono (h : CAt b0 N W wr c s A1 n1 c1 A2 n2 c2 l) (hE : Below wr.heap.size wr w1) : CAt b0 N W w1 c s A1 n1 c1 A2 n2 c2 l :=
  ⟨cellKeep hE h.cell0, cellKeep hE h.cell1, fun o => (hE.frozen (p := ⟨N, o, none⟩) h.big).trans (h.free o), h.below.trans (hE.mono (by have := h.big; omega)), h.low, Row.mono h.r1 hE, h.o1, Row.mono h.r2 hE, h.apart, h.mid, Nat.le_trans h.big hE.size⟩
theorem CAt.skip (h : CAt b0 N W wr c s A1 n1 c1 A2 n2 c2 (d :: t)) (hs : stepC s d = s) : CAt b0 N W wr c s A1 n1 c1 A2 n2 c2 t :=
  ⟨h.cell0, h.cell1, h.free, h.below, h.low, h.r1, h.o1, h.r2, h.apart, by have := h.mid.next; rwa [hs] at this, h.big⟩
theorem CAt.raise (h : CAt b0 N W wr c s A1 n1 c1 A2 n2 c2 (d :: t)) (hs : stepC s d = (raiseV s.1 d, s.2)) (hE : Below wr.heap.size wr w1) (hr : Row w1 wr.heap.size (.slice A3 n3 c3) (raiseV s.1 d)) :
    CAt b0 N W (w1.setCell ⟨N, 0, none⟩ (.slice A3 n3 c3)) c (raiseV s.1 d, s.2) A3 n3 c3 A2 n2 c2 t := by
  have hg := h.mono hE
  have hbig := h.big
  have hown : ∀ k, (Value.slice A3 n3 c3).ownBlock = some k -> wr.heap.size <= k := fun k hk => Row.own _ hr k hk
  refine ⟨cell_set hg.cell0, cell_far (by simp) hg.cell1, fun o => (World.frozen?_setCell _ _ _ _).trans (hg.free o), hg.below.setCell (p := ⟨N, 0, none⟩) (by simp) _, h.low, Row.set_ (Row.low hr (by have := h.low; omega)) (fun k hk => by have := hown k hk; show k ≠ N; omega) _,
    fun k hk => by have := hown k hk; omega, Row.set_ hg.r2 (fun k hk => by have := Row.own _ hg.r2 k hk; show k ≠ N; omega) _, fun k hk e => ?_, by have := h.mid.next; rwa [hs] at this, by have := hg.big; simp [World.setCell]; omega⟩
  have h1 := hown k hk
  have h2 := Row.upto h.r2 k e
  omega
theorem CAt.put {v' : Value} (h : CAt b0 N W wr c s A1 n1 c1 A2 n2 c2 (d :: t)) (hs : stepC s d = (s.1, s.2 ++ [d])) (ev : v' = .slice A3 n3 c3) (hr : Row w1 (N + 1) v' (s.2 ++ [d])) (hg : wr.grownBy w1 (Value.slice A2 n2 c2).ownBlock)
    (hw : ∀ g, v'.ownBlock = some g -> (Value.slice A2 n2 c2).ownBlock = some g ∨ wr.heap.size <= g) :
    CAt b0 N W (w1.setCell ⟨N, 1, none⟩ v') c (s.1, s.2 ++ [d]) A1 n1 c1 A3 n3 c3 t := by
  subst ev
  have hbig := h.big
  have hne : some N ≠ (Value.slice A2 n2 c2).ownBlock := fun e => by have := Row.own _ h.r2 N e.symm; omega
  have r1 : Row w1 b0 (.slice A1 n1 c1) s.1 := Row.grown h.r1 hg (by
    cases e : (Value.slice A1 n1 c1).ownBlock with
    | none => exact .inl rfl
    | some k => exact .inr (fun e2 => h.apart k e e2.symm))
  refine ⟨cell_far (by simp) (hg.cell h.cell0 hne), cell_set (hg.cell h.cell1 hne), fun o => (World.frozen?_setCell _ _ _ _).trans ((World.frozen?_of_block (hg.block N (by omega) hne)).trans (h.free o)),
    (h.below.grown hg (by omega) (fun q hq => by have := Row.own _ h.r2 q hq; omega)).setCell (p := ⟨N, 1, none⟩) (by simp) _, h.low, Row.set_ r1 (fun k hk => h.o1 k hk) _, h.o1, Row.set_ hr (fun k hk => by have := Row.own _ hr k hk; show k ≠ N; omega) _,
    fun k hk e => ?_, by have := h.mid.next; rwa [hs] at this, by have := hg.size; simp [World.setCell]; omega⟩
  rcases hw k e with h1 | h1
  · exact h.apart k hk h1
  · have := Row.upto h.r1 k hk; omega
end
theorem step_skip {s : Ctx} {d : Dot} (hd : validD d = true) (h : d.2 <= getV s.1 d.1) : stepC s d = s := by unfold stepC; rw [if_pos ((hasV_valid hd).2 h)]
theorem step_raise {s : Ctx} {d : Dot} (hd : validD d = true) (h : d.2 = getV s.1 d.1 + 1) : stepC s d = (raiseV s.1 d, s.2) := by unfold stepC; rw [if_neg (fun e => by have := (hasV_valid hd).1 e; omega), if_pos (by simpa using h)]
theorem step_put {s : Ctx} {d : Dot} (hd : validD d = true) (h : getV s.1 d.1 + 1 < d.2) : stepC s d = (s.1, s.2 ++ [d]) := by unfold stepC; rw [if_neg (fun e => by have := (hasV_valid hd).1 e; omega), if_neg (by simp; omega)]
def IsConA (b : Nat) (c : Ctx) (w : World) (v : Value) : Prop := ∃ A n ca B m cb, v = .agg #[.slice A n ca, .slice B m cb] ∧ Row w b (.slice A n ca) c.1 ∧ Row w b (.slice B m cb) c.2 ∧ ∀ k, (Value.slice A n ca).ownBlock = some k -> (Value.slice B m cb).ownBlock ≠ some k
instance (b : Nat) (c : Ctx) : Grows (IsConA b c) := ⟨fun hb ⟨A, n, ca, B, m, cb, e, h1, h2, h3⟩ => ⟨A, n, ca, B, m, cb, e, h1.mono hb, h2.mono hb, h3⟩⟩
theorem IsConA.low {b b' : Nat} {c : Ctx} {w : World} {v : Value} (h : IsConA b c w v) (hb : b' <= b) : IsConA b' c w v := let ⟨A, n, ca, B, m, cb, e, h1, h2, h3⟩ := h; ⟨A, n, ca, B, m, cb, e, h1.low hb, h2.low hb, h3⟩
def CompIRel (b0 N : Nat) (W : World) (n m : Nat) (c : Ctx) (i : Value) (wr : World) : Prop :=
  ∃ (k : Nat) (s : Ctx) (A1 : Option Addr) (n1 c1 : Nat) (A2 : Option Addr) (n2 c2 : Nat), i = .int .i64 k ∧ k <= m ∧ CAt b0 N W wr c s A1 n1 c1 A2 n2 c2 (c.2.drop k) ∧ n1 <= n + k ∧ n2 <= k ∧ passC c = (c.2.drop k).foldl stepC s
end Go.Proofs.YtphhhnjeojdnkaaGreatDoor

/-
  context.Compact.
-/
namespace Go.Proofs.YtphhhnjeojdnkaaGreatDoor
open Go.RowKit
theorem icompact (A B : Option Addr) (n ca m cb : Nat) (c : Ctx) (w : World) (h : Con w A n ca B m cb c) (hs : Small (n + m + 1)) (hv : validC c = true) :
    Calls Tryz.prog 189 #[.agg #[.slice A n ca, .slice B m cb]] w (Ret w (IsPair (IsConA w.heap.size (passC c)) 0)) := by
  have hb0 : Below w.heap.size w ((w.alloc (conBox A n ca B m cb)).alloc (conBox none 0 0 none 0 0)) := by go_grown
  have y0 : ((w.alloc (conBox A n ca B m cb)).alloc (conBox none 0 0 none 0 0)).cell? ⟨w.heap.size, 0, none⟩ = some (.slice A n ca) := by simp [go_sem]
  have y1 : ((w.alloc (conBox A n ca B m cb)).alloc (conBox none 0 0 none 0 0)).cell? ⟨w.heap.size, 1, none⟩ = some (.slice B m cb) := by simp [go_sem]
  have z0 : ((w.alloc (conBox A n ca B m cb)).alloc (conBox none 0 0 none 0 0)).cell? ⟨w.heap.size + 1, 0, none⟩ = some (.slice none 0 0) := by simp [go_sem]
  have z1 : ((w.alloc (conBox A n ca B m cb)).alloc (conBox none 0 0 none 0 0)).cell? ⟨w.heap.size + 1, 1, none⟩ = some (.slice none 0 0) := by simp [go_sem]
  have zf : ∀ o, ((w.alloc (conBox A n ca B m cb)).alloc (conBox none 0 0 none 0 0)).frozen? ⟨w.heap.size + 1, o, none⟩ = false := fun o => by simp [go_sem]
  have h0 := h.mono hb0
  have f := cvalid170 A B n ca m cb c _ h0
  rw [hv] at f
  have hm := h.k.big
  have hsn := hs.out
  have F := Lib.hid f; have HB := Lib.hid hb0; have Y0 := Lib.hid y0; have Y1 := Lib.hid y1; have Z0 := Lib.hid z0; have Z1 := Lib.hid z1; have ZF := Lib.hid zf; have H := Lib.hid h; have H0 := Lib.hid h0; have HV := Lib.hid hv
  clear f hb0 y0 y1 z0 z1 zf h h0 hv
  go_enter Tryz.func189, Tryz.ntmps189
  go_wp2_with (go_at_call 170; ((with_reducible refine F.out.mono ?_); rintro e w1 ⟨_, rfl, hb1, rfl⟩; have HB1 := Lib.hid hb1; have x0 := cellKeep hb1 Y0.out; clear hb1))
  have f2 := cclone58 A n ca c.1 w1 (H0.out.v.mono HB1.out) (by unfold Small; omega)
  have F2 := Lib.hid f2; clear f2
  refine F2.out.mono ?_
  rintro e w2 ⟨v, rfl, hb2, hr2⟩
  obtain ⟨A1, n1, c1, rfl, hd1⟩ := IsRow.dots hr2
  have hn1 : n1 <= n := by rw [hd1.len, H.out.v.len]; exact Nat.le_refl _
  have HB2 := Lib.hid (HB1.out.le hb2); have HR2 := Lib.hid hr2
  have x1 := cellKeep HB2.out Y1.out
  have hz2 : w.heap.size + 1 < w2.heap.size := World.block_lt_of_cell? w2 _ (cellKeep HB2.out Z0.out)
  have hz3 : w.heap.size < w2.heap.size := by omega
  clear hb2 hr2 hd1 F F2 x0
  go_wp2
  have hw2 : Below w2.heap.size w2 (w2.alloc (conBox A1 n1 c1 none 0 0)) := (Below.refl _ _).alloc (Nat.le_refl _) _
  have hsz1 := HB1.out.size
  have start : CompIRel (w.heap.size + 2) w2.heap.size w2 n m c (.int .i64 ((0 : Nat) : Int)) (w2.alloc (conBox A1 n1 c1 none 0 0)) :=
    ⟨0, (c.1, []), A1, n1, c1, none, 0, 0, rfl, Nat.zero_le _, ⟨by simp [go_sem], by simp [go_sem], fun o => by simp [go_sem], hw2, by omega, Row.low (Row.mono HR2.out hw2) (by simp at hsz1; omega), fun k hk => by have := Row.upto HR2.out k hk; omega, Row.nil_ _ _, fun k hk => by simp [Value.ownBlock], Mid.start (ok_iff.1 HV.out), by simp⟩, hn1, Nat.le_refl _, rfl⟩
  have START := Lib.hid start
  have HCK := Lib.hid (H0.out.k.mono HB2.out)
  have HLK := Lib.hid H.out.k.len
  have Z20 := Lib.hid (cellKeep HB2.out Z0.out); have Z21 := Lib.hid (cellKeep HB2.out Z1.out)
  have ZF2 := Lib.hid (fun o => (HB2.out.frozen (p := ⟨w.heap.size + 1, o, none⟩) (by simp)).trans (ZF.out o))
  have HBW := Lib.hid (HB.out.le HB2.out)
  clear start hw2 x1 HR2 HB2 HB1 HB Y0 Y1 Z0 Z1 ZF H0 H HV hsz1 hn1
  go_loopw [19] (fun i wr => CompIRel (w.heap.size + 2) w2.heap.size w2 n m c i wr) (fun i _ => m - (intOf i).toNat)
  case atStart => exact START.out
  case round =>
    clear START
    obtain ⟨k, s, A3, n3, c3, A4, n4, c4, rfl, hk, hat, hn3, hn4, hf⟩ := hrel
    have hbig := hat.big
    have hcl0 := hat.cell0
    have hcl1 := hat.cell1
    have hfr0 := hat.free 0
    have hfr1 := hat.free 1
    have HAT := Lib.hid hat; have HF := Lib.hid hf
    clear hat hf
    have hzN : w2.heap.size < wr.heap.size := by omega
    by_cases hlt : k < m
    · obtain ⟨b, o, x, y, rfl, hbk, e0, d1, k1, k2⟩ := (HCK.out.mono HAT.out.below).at_ (k := k) hlt
      have hd : validD (x, y) = true := validL_mem HAT.out.mid.dots (List.mem_append_right _ (by rw [d1]; exact List.mem_cons_self))
      have hat := HAT.out
      rw [d1] at hat
      have HA := Lib.hid hat
      have hbw : Below wr.heap.size wr (wr.alloc (.cells #[.int .i64 x, .int .i64 y] 67)) := by go_grown
      have hA2 := hat.mono hbw
      have fg := vget A3 n3 c3 s.1 x _ hA2.r1.asDots
      have hgb := getV_bd s.1 x hat.mid.vec
      have hyb := validD_iff.1 hd
      have hx1 : 1 <= x := hyb.1
      have hy1 : 1 <= y := hyb.2.2.1
      have hy2 : y <= 4294967295 := hyb.2.2.2
      have ss := step_skip (s := s) hd; have sr := step_raise (s := s) hd; have sp := step_put (s := s) hd
      simp only at ss sr sp
      have D1 := Lib.hid d1; have A2 := Lib.hid hA2; have HD := Lib.hid hd; have FG := Lib.hid fg
      clear d1 hat hA2 hd fg e0 hyb hbw
      have hst : ∀ w3, Below (wr.alloc (.cells #[.int .i64 x, .int .i64 y] 67)).heap.size (wr.alloc (.cells #[.int .i64 x, .int .i64 y] 67)) w3 -> w3.cell? ⟨wr.heap.size, 0, none⟩ = some (.int .i64 x) ∧ w3.cell? ⟨wr.heap.size, 1, none⟩ = some (.int .i64 y) ∧ wr.heap.size < w3.heap.size := fun w3 hb3 =>
        ⟨cellKeep hb3 (by simp [go_sem]), cellKeep hb3 (by simp [go_sem]), by have := hb3.size; simp at this; omega⟩
      have HST := Lib.hid hst
      clear hst
      have hn3' : n3 <= 9223372036854775807 := by omega
      go_wp2_with fail
      refine FG.out.mono ?_
      rintro e w3 ⟨_, rfl, hb3, rfl⟩
      obtain ⟨t0, t1, hz5⟩ := HST.out w3 hb3
      have A3' := Lib.hid (A2.out.mono hb3)
      have HB3 := Lib.hid hb3
      have u0 := A3'.out.cell0; have u1 := A3'.out.cell1; have v0 := A3'.out.free 0; have v1 := A3'.out.free 1
      have hzN3 : w2.heap.size < w3.heap.size := by omega
      clear hb3 A2 FG HST hcl0 hcl1 hfr0 hfr1 HAT HA
      by_cases h1 : y <= getV s.1 x
      · have HS := Lib.hid (ss h1)
        clear ss sr sp
        generalize getV s.1 x = g at *
        have hne : (y == g + 1) = false := by rw [beq_eq_false_iff_ne]; omega
        have hgt : decide (g + 1 < y) = false := by rw [decide_eq_false_iff_not]; omega
        have hw : IntKind.i64.wrap (g + 1) = g + 1 := IntWalk.i64_in _ (by omega)
        go_wp2
        go_roundw
        case rel => exact ⟨k + 1, s, _, _, _, _, _, _, by simp, hlt, A3'.out.skip HS.out, by omega, by omega, by rw [HF.out, D1.out, List.foldl_cons, HS.out]⟩
        case measure => simp [intOf]; omega
      · by_cases h2 : y = getV s.1 x + 1
        · have HS := Lib.hid (sr h2)
          have hvv : validV s.1 = true := by unfold validV; rw [(incV_inc s.1).2 A3'.out.mid.inc, A3'.out.mid.vec]; rfl
          have F := Lib.hid (vraise x y A3 n3 c3 s.1 w3 A3'.out.r1.asDots (by unfold Small; omega) hvv HD.out)
          have hl3 := Lib.hid A3'.out.r1.asDots.len
          clear ss sr sp hvv
          generalize hgg : getV s.1 x = g at *
          clear hgg
          have hne : (y == g + 1) = true := by rw [beq_iff_eq]; omega
          have hgt : decide (g + 1 < y) = false := by rw [decide_eq_false_iff_not]; omega
          have H2 := Lib.hid h2
          clear h2
          go_wp2_with fail
          refine F.out.mono ?_
          rintro e w4 ⟨_, rfl, hb4, v, rfl, hr⟩
          obtain ⟨A5, n5, c5, rfl, hd5⟩ := IsRow.dots hr
          have hn5 : n5 <= n + (k + 1) := by have h3 := raiseV_length s.1 (x, y); have h4 := hd5.len; have h5 := hl3.out; omega
          have A4' := Lib.hid (A3'.out.raise HS.out hb4 hr)
          have y0 := cellKeep hb4 A3'.out.cell0
          have y1 := (hb4.frozen (p := ⟨w2.heap.size, 0, none⟩) hzN3).trans (A3'.out.free 0)
          have hzN4 : w2.heap.size < w4.heap.size := by have := hb4.size; omega
          clear hb4 hr hd5 F u0 u1 v0 v1 t0 t1
          go_wp2
          go_roundw
          case rel => exact ⟨k + 1, _, _, _, _, _, _, _, by simp, hlt, A4'.out, hn5, by omega, by rw [HF.out, D1.out, List.foldl_cons, HS.out]⟩
          case measure => simp [intOf]; omega
        · have HS := Lib.hid (sp (by omega))
          have hl4 := Lib.hid A3'.out.r2.asDots.len
          clear ss sr sp
          generalize hgg : getV s.1 x = g at *
          clear hgg
          have hgt : decide (g + 1 < y) = true := by rw [decide_eq_true_iff]; omega
          have hb5 : Below w3.heap.size w3 (w3.alloc (.cells #[.int .i64 x, .int .i64 y] 67)) := by go_grown
          have A4' := Lib.hid (A3'.out.mono hb5)
          have DD := Lib.hid (Dots.one w3 x y)
          clear hb5
          go_wp2_with (at_builtin; refine wpList_appO (B := w2.heap.size + 1) (v := .slice A4 n4 c4) (l := s.2) (k := [(x, y)]) rfl rfl Tryz.underlying57 rfl rfl A4'.out.r2 DD.out (by have := hl4.out; simp; omega) (by simp; omega) ?_; intro v' w4 hr' hg' hw'; obtain ⟨A5, n5, c5, ev, hd5⟩ := IsRow.dots hr'; have hn5 : n5 <= k + 1 := (by have h4 := hd5.len; have h5 := hl4.out; simp at h4; omega); have A5' := Lib.hid (A4'.out.put HS.out ev hr' hg' hw'); have y0 := cellKeep (w := w4) (Below.refl _ _) (hg'.cell A4'.out.cell1 (fun e => by have h : w2.heap.size + 1 <= w2.heap.size := Row.own _ A4'.out.r2 _ e.symm; omega)); have hzN4 : w2.heap.size < w4.heap.size := World.block_lt_of_cell? w4 _ y0; have y1 := (World.frozen?_of_block (a := ⟨w2.heap.size, 1, none⟩) (hg'.block w2.heap.size (by have := A4'.out.big; omega) (fun e => by have h : w2.heap.size + 1 <= w2.heap.size := Row.own _ A4'.out.r2 _ e.symm; omega))).trans (A4'.out.free 1); subst ev; clear hr' hg' hw' hd5 u0 u1 v0 v1 t0 t1; simp only [Act.put, List.setIfInBounds_toArray, List.set_cons_zero, List.set_cons_succ])
          go_roundw
          case rel => exact ⟨k + 1, _, _, _, _, _, _, _, by simp, hlt, A5'.out, by omega, hn5, by rw [HF.out, D1.out, List.foldl_cons, HS.out]⟩
          case measure => simp [intOf]; omega
    · have hs0 : passC c = s := by have := HF.out; rwa [List.drop_of_length_le (by rw [<- HLK.out]; omega)] at this
      have HSS := Lib.hid hs0
      have y0 := (HAT.out.below.cell (p := ⟨w.heap.size + 1, 0, none⟩) (by show w.heap.size + 1 < _; omega)).trans Z20.out
      have y1 := (HAT.out.below.cell (p := ⟨w.heap.size + 1, 1, none⟩) (by show w.heap.size + 1 < _; omega)).trans Z21.out
      have yf0 := (HAT.out.below.frozen (p := ⟨w.heap.size + 1, 0, none⟩) (by show w.heap.size + 1 < _; omega)).trans (ZF2.out 0)
      have yf1 := (HAT.out.below.frozen (p := ⟨w.heap.size + 1, 1, none⟩) (by show w.heap.size + 1 < _; omega)).trans (ZF2.out 1)
      have hz9 : w.heap.size + 1 < wr.heap.size := by omega
      clear hs0 HF
      go_wp2
      have s0 := cell_set (v := .slice A3 n3 c3) y0
      have s1 := cell_set (v := .slice A4 n4 c4) (cell_far (b := ⟨w.heap.size + 1, 0, none⟩) (v := .slice A3 n3 c3) (by simp) y1)
      refine bodyPost_ret (v := .tuple #[.agg #[.slice A3 n3 c3, .slice A4 n4 c4], .int .i64 0]) (by simp [results, Tryz.results189, go_sem, s0, s1]) rfl ?_
      have ho1 : ∀ j, (Value.slice A3 n3 c3).ownBlock = some j -> j ≠ w.heap.size + 1 := fun j hj => by have := Row.own _ HAT.out.r1 j hj; omega
      have ho2 : ∀ j, (Value.slice A4 n4 c4).ownBlock = some j -> j ≠ w.heap.size + 1 := fun j hj => by have := Row.own _ HAT.out.r2 j hj; omega
      refine ⟨_, rfl, ((HBW.out.trans (HAT.out.below.mono (by omega))).setCell (p := ⟨w.heap.size + 1, 0, none⟩) (by simp) _).setCell (p := ⟨w.heap.size + 1, 1, none⟩) (by simp) _, _, rfl, ?_⟩
      rw [HSS.out]
      exact ⟨_, _, _, _, _, _, rfl, Row.low (Row.set_ (Row.set_ HAT.out.r1 (p := ⟨w.heap.size + 1, 0, none⟩) ho1 _) (p := ⟨w.heap.size + 1, 1, none⟩) ho1 _) (by omega), Row.low (Row.set_ (Row.set_ HAT.out.r2 (p := ⟨w.heap.size + 1, 0, none⟩) ho2 _) (p := ⟨w.heap.size + 1, 1, none⟩) ho2 _) (by omega), HAT.out.apart⟩
theorem entersICompact : Enters Tryz.prog 189 := enters_of Tryz.func189 (by kernel_rfl) rfl
end Go.Proofs.YtphhhnjeojdnkaaGreatDoor

/-
  context.Size.
-/
namespace Go.Proofs.YtphhhnjeojdnkaaGreatDoor
open Go.RowKit
end Go.Proofs.YtphhhnjeojdnkaaGreatDoor

/-
  context.Add, context.Of.
-/
namespace Go.Proofs.YtphhhnjeojdnkaaGreatDoor
open Go.RowKit
theorem Ret.imp {w w' : World} {F G : VT} {e : Ending} (h : Ret w F e w') (hfg : ∀ v, F w' v -> G w' v) : Ret w G e w' := let ⟨v, e, hb, hf⟩ := h; ⟨v, e, hb, hfg v hf⟩
theorem IsPair.imp {w : World} {F G : VT} {k : Int} {v : Value} (h : IsPair F k w v) (hfg : ∀ v, F w v -> G w v) : IsPair G k w v := let ⟨x, e, hf⟩ := h; ⟨x, e, hfg x hf⟩
theorem ext0 {w : World} {F : VT} {k : Int} {v : Value} (h : IsPair F k w v) : ∃ r, (Instr.extract v 0).run Tryz.prog w = .ok r w ∧ F w r := by
  obtain ⟨x, rfl, hf⟩ := h
  exact ⟨x, by simp [go_sem], hf⟩
theorem ext1 {w : World} {F : VT} {k : Int} {v : Value} (h : IsPair F k w v) : ∃ r, (Instr.extract v 1).run Tryz.prog w = .ok r w ∧ Is (.int .i64 k) w r := by
  obtain ⟨x, rfl, hf⟩ := h
  exact ⟨.int .i64 k, by simp [go_sem], rfl⟩
theorem iadd (A B C : Option Addr) (n ca m cb k ck : Nat) (c : Ctx) (l : List Dot) (w : World) (h : Con w A n ca B m cb c) (hl : Dots w C k ck l) (hs : Small (n + (m + k) + 1)) (hv : validC c = true) (hvl : validL l = true) :
    Calls Tryz.prog 143 #[.agg #[.slice A n ca, .slice B m cb], .slice C k ck] w (Ret w (IsPair (IsConA w.heap.size (addC c l)) 0)) := by
  have hb0 : Below w.heap.size w ((w.alloc (conBox A n ca B m cb)).alloc (conBox none 0 0 none 0 0)) := by go_grown
  have y0 : ((w.alloc (conBox A n ca B m cb)).alloc (conBox none 0 0 none 0 0)).cell? ⟨w.heap.size, 0, none⟩ = some (.slice A n ca) := by simp [go_sem]
  have y1 : ((w.alloc (conBox A n ca B m cb)).alloc (conBox none 0 0 none 0 0)).cell? ⟨w.heap.size, 1, none⟩ = some (.slice B m cb) := by simp [go_sem]
  have z0 : ((w.alloc (conBox A n ca B m cb)).alloc (conBox none 0 0 none 0 0)).cell? ⟨w.heap.size + 1, 0, none⟩ = some (.slice none 0 0) := by simp [go_sem]
  have z1 : ((w.alloc (conBox A n ca B m cb)).alloc (conBox none 0 0 none 0 0)).cell? ⟨w.heap.size + 1, 1, none⟩ = some (.slice none 0 0) := by simp [go_sem]
  have zf : ∀ o, ((w.alloc (conBox A n ca B m cb)).alloc (conBox none 0 0 none 0 0)).frozen? ⟨w.heap.size + 1, o, none⟩ = false := fun o => by simp [go_sem]
  have hsm : Small (m + k) := by have := hs.out; unfold Small; omega
  have hsc : ∀ (A' B' : Option Addr) (n' ca' m' cb' : Nat) (w' : World), Con w' A' n' ca' B' m' cb' (c.1, unionD c.2 l) -> Small (n' + m' + 1) := fun A' B' n' ca' m' cb' w' hc => by
    have e1 := hc.v.len; have e2 := hc.k.len; have := unionD_length c.2 l; have := h.v.len; have := h.k.len; have := hl.len; have := hs.out
    unfold Small; simp only at e1 e2; omega
  have h0 := h.mono hb0
  have l0 := hl.mono hb0
  have f := cvalid170 A B n ca m cb c _ h0
  have f2 := fun w1 h1 => cvalidL C k ck l w1 h1
  rw [hv] at f
  rw [hvl] at f2
  have hvu : validC (c.1, unionD c.2 l) = true := ok_iff.2 (ok_add (ok_iff.1 hv) hvl)
  have H0 := Lib.hid h0; have L0 := Lib.hid l0; have HB := Lib.hid hb0; have Y0 := Lib.hid y0; have Y1 := Lib.hid y1; have Z0 := Lib.hid z0; have Z1 := Lib.hid z1; have ZF := Lib.hid zf; have HSC := Lib.hid hsc; have HVU := Lib.hid hvu
  have F := Lib.hid f; have F2 := Lib.hid f2
  clear hb0 y0 y1 z0 z1 zf h hl h0 l0 f f2 hsc hvu hv hvl
  unfold addC
  rw [compact_pass]
  have hcall : ∀ (w1 : World) (v : Value), w.heap.size + 2 <= w1.heap.size -> IsCon (c.1, unionD c.2 l) w1 v -> Calls Tryz.prog 189 #[v] w1 (Ret w1 (IsPair (IsConA (w.heap.size + 2) (passC (c.1, unionD c.2 l))) 0)) := by
    rintro w1 v hw1 ⟨A', n', ca', B', m', cb', rfl, hc⟩
    exact (icompact A' B' n' ca' m' cb' _ w1 hc (HSC.out _ _ _ _ _ _ _ hc) HVU.out).mono fun _ _ hr => hr.imp fun _ hp => hp.imp fun _ ha => ha.low hw1
  have HCALL := Lib.hid hcall; clear hcall
  go_enter Tryz.func143, Tryz.ntmps143
  go_wp2_with fail
  refine F.out.mono ?_
  rintro e w1 ⟨_, rfl, hb1, rfl⟩
  have F3 := Lib.hid (F2.out w1 (L0.out.mono hb1))
  have HB1 := Lib.hid hb1
  clear hb1 F F2
  go_wp2_with fail
  refine F3.out.mono ?_
  rintro e w2 ⟨_, rfl, hb2, rfl⟩
  have HB2 := Lib.hid (HB1.out.le hb2)
  have hz2 : w.heap.size + 2 <= w2.heap.size := by have := HB2.out.size; simp at this; omega
  have K0 := Lib.hid (cellKeep HB2.out Y0.out); have K1 := Lib.hid (cellKeep HB2.out Y1.out)
  have H2 := Lib.hid (H0.out.mono HB2.out); have L2 := Lib.hid (L0.out.mono HB2.out)
  clear hb2 F3 HB1
  go_wp2_with fail
  refine wp_region_MT 10 mixed (by kernel_rfl) (by kernel_rfl) ?_
  refine MDerT.step (Ob.fieldV Wanted.free Has.oldIs (fun w1 => field_con0)) ?_
  refine MDerT.step (Ob.loadV Wanted.free (Has.new 0 0) (fun w1 hb1 => load_vec hb1 K0.out)) ?_
  refine MDerT.step (Ob.fieldV Wanted.free Has.oldIs (fun w1 => field_con1)) ?_
  refine MDerT.step (Ob.loadV Wanted.free (Has.new 2 0) (fun w1 hb1 => load_dots hb1 K1.out)) ?_
  refine MDerT.step (Ob.move Wanted.free Has.oldIs) ?_
  refine MDerT.step (Ob.call2V Wanted.free entersDUnion (Has.new 3 1) (Has.new 4 0) (fun w1 hb1 => (dunion B C m cb k ck c.2 l w1 (H2.out.k.mono hb1) (L2.out.mono hb1) hsm).mono fun _ _ hr => hr.imp fun _ hx => IsRow.dots hx)) ?_
  refine MDerT.step (Ob.mkConD Wanted.free (Has.new 1 4) (Has.new 5 0) (fun w1 hb1 => H2.out.v.mono hb1)) ?_
  refine MDerT.step (Ob.call1 Wanted.free entersICompact (Has.new 6 0) (fun w1 v hb1 hv => HCALL.out w1 v (Nat.le_trans hz2 hb1.size) hv)) ?_
  refine MDerT.step (Ob.extract (F := IsConA (w.heap.size + 2) (passC (c.1, unionD c.2 l))) Wanted.free (Has.new 7 0) (fun w1 v hb1 hv => ext0 (F := IsConA (w.heap.size + 2) (passC (c.1, unionD c.2 l))) hv)) ?_
  refine MDerT.step (Ob.extract (F := IsI 0) Wanted.free (Has.new 7 1) (fun w1 v hb1 hv => ext1 (F := IsConA (w.heap.size + 2) (passC (c.1, unionD c.2 l))) hv)) ?_
  simp only [MDerT, dstsOf, List.map, EndM, List.reverse_cons, List.reverse_nil, List.nil_append, List.cons_append, List.take_succ_cons, List.take_zero, List.drop_succ_cons, List.drop_zero]
  intro wE hE
  iterate 5 (rintro _ rfl)
  rintro _ _h5
  rintro _ _h6
  rintro _ _h7
  rintro _ ⟨A1, n1, c1, B1, m1, d1, rfl, r1, r2, hap⟩
  iterate 1 (rintro _ rfl)
  simp only [Act.put, List.setIfInBounds_toArray, List.set_cons_zero, List.set_cons_succ]
  have hEE := HB2.out.le hE
  have x0 := cellKeep hEE Z0.out
  have x1 := cellKeep hEE Z1.out
  have yf0 : wE.frozen? ⟨w.heap.size + 1, 0, none⟩ = false := (hEE.frozen (p := ⟨w.heap.size + 1, 0, none⟩) (by simp)).trans (ZF.out 0)
  have yf1 : wE.frozen? ⟨w.heap.size + 1, 1, none⟩ = false := (hEE.frozen (p := ⟨w.heap.size + 1, 1, none⟩) (by simp)).trans (ZF.out 1)
  have hz : w.heap.size + 1 < wE.heap.size := World.block_lt_of_cell? wE _ x0
  have s0 := cell_set (v := .slice A1 n1 c1) x0
  have s1 := cell_set (v := .slice B1 m1 d1) (cell_far (b := ⟨w.heap.size + 1, 0, none⟩) (v := .slice A1 n1 c1) (by simp) x1)
  have HE2 := Lib.hid hEE; have R1 := Lib.hid r1; have R2 := Lib.hid r2; have HAP := Lib.hid hap
  clear hE hEE r1 r2 hap
  go_wp2
  refine bodyPost_ret (v := .tuple #[.agg #[.slice A1 n1 c1, .slice B1 m1 d1], .int .i64 0]) (by simp [results, Tryz.results143, go_sem, s0, s1]) rfl ?_
  have ho1 : ∀ j, (Value.slice A1 n1 c1).ownBlock = some j -> j ≠ w.heap.size + 1 := fun j hj => by have := Row.own _ R1.out j hj; omega
  have ho2 : ∀ j, (Value.slice B1 m1 d1).ownBlock = some j -> j ≠ w.heap.size + 1 := fun j hj => by have := Row.own _ R2.out j hj; omega
  exact ⟨_, rfl, ((HB.out.le HE2.out).setCell (p := ⟨w.heap.size + 1, 0, none⟩) (by simp) _).setCell (p := ⟨w.heap.size + 1, 1, none⟩) (by simp) _, _, rfl, _, _, _, _, _, _, rfl,
    Row.low (Row.set_ (Row.set_ R1.out (p := ⟨w.heap.size + 1, 0, none⟩) ho1 _) (p := ⟨w.heap.size + 1, 1, none⟩) ho1 _) (by omega), Row.low (Row.set_ (Row.set_ R2.out (p := ⟨w.heap.size + 1, 0, none⟩) ho2 _) (p := ⟨w.heap.size + 1, 1, none⟩) ho2 _) (by omega), HAP.out⟩
end Go.Proofs.YtphhhnjeojdnkaaGreatDoor

/-
  slices.DeleteFunc on a row of the call's own; context.Missing.
-/
namespace Go.Proofs.YtphhhnjeojdnkaaGreatDoor
open Go.RowKit
theorem idx_none (p : Dot -> Bool) : ∀ (l : List Dot) (k : Nat), idxFrom p k l = -1 -> ∀ d ∈ l, p d = false
  | [], _, _, d, hd => nomatch hd
  | a :: t, k, h, d, hd => by
    rw [idxFrom] at h
    cases hp : p a with
    | true => rw [hp, if_pos rfl] at h; omega
    | false =>
      rw [hp, if_neg (by simp)] at h
      rcases List.mem_cons.1 hd with rfl | hd
      · exact hp
      · exact idx_none p t (k + 1) h d hd
theorem idx_some (p : Dot -> Bool) : ∀ (l : List Dot) (k : Nat), idxFrom p k l ≠ -1 -> ∃ m, idxFrom p k l = ((k + m : Nat) : Int) ∧ m < l.length ∧ (∀ d ∈ l.take m, p d = false) ∧ ∃ d, l[m]? = some d ∧ p d = true
  | [], _, h => absurd rfl h
  | a :: t, k, h => by
    rw [idxFrom] at h ⊢
    cases hp : p a with
    | true =>
      rw [if_pos rfl]
      exact ⟨0, by simp, by simp, by simp, a, rfl, hp⟩
    | false =>
      rw [hp, if_neg (by simp)] at h
      obtain ⟨m, h1, h2, h3, d, h4, h5⟩ := idx_some p t (k + 1) h
      rw [if_neg (by simp)]
      refine ⟨m + 1, by rw [h1]; congr 1; omega, by simpa using h2, fun x hx => ?_, d, by simpa using h4, h5⟩
      rw [List.take_succ_cons] at hx
      rcases List.mem_cons.1 hx with rfl | hx
      · exact hp
      · exact h3 x hx
def keepD (p : Dot -> Bool) (l : List Dot) : List Dot := l.filter fun d => !p d
theorem keep_all {p : Dot -> Bool} {l : List Dot} (h : ∀ d ∈ l, p d = false) : keepD p l = l := List.filter_eq_self.2 fun d hd => by rw [h d hd]; rfl
theorem keep_snoc {p : Dot -> Bool} {l : List Dot} {k : Nat} {d : Dot} (h : l[k]? = some d) : keepD p (l.take (k + 1)) = keepD p (l.take k) ++ if p d then [] else [d] := by
  unfold keepD
  rw [take_snoc h, List.filter_append]
  cases hp : p d <;> simp [hp]
def AsksB (B : Nat) (w : World) (g : Nat) (cb : Array Value) (l : List Dot) (p : Dot -> Bool) : Prop :=
  ∀ w', Below B w w' -> ∀ x y, (x, y) ∈ l -> Calls Tryz.prog g (#[.agg #[.int .i64 x, .int .i64 y]] ++ cb) w' (Ret w' (IsB (p (x, y))))
def DelRel (B : Nat) (v : Value) (w : World) (n : Nat) (p : Dot -> Bool) (l : List Dot) (i j : Value) (wr : World) : Prop :=
  ∃ (k m : Nat) (l' : List Dot), i = .int .i64 k ∧ j = .int .i64 m ∧ k < m ∧ m <= n ∧ Below B w wr ∧ Row wr B v l' ∧ l'.length = l.length ∧ l'.drop m = l.drop m ∧ l'.take k = keepD p (l.take m)
theorem ddelete_row (B g cap f : Nat) (cb : Array Value) (p : Dot -> Bool) (l : List Dot) (w : World) (h : Row w B (.slice (some ⟨g, 0, none⟩) l.length cap) l) (hs : Small l.length) (hBw : B <= w.heap.size)
    (ef : ∀ args w, (callFunc f args).run Tryz.prog w = .ok (.enter f args) w) (hp : AsksB B w f cb l p) :
    Calls Tryz.prog 173 #[.slice (some ⟨g, 0, none⟩) l.length cap, .func (.func f) #[] cb] w (RetOwn B (keepD p l) w) := by
  have hd := h.asDots
  have hcap := hd.cap
  have hmx := hd.big
  have hB : B <= g := Row.from_ h ⟨g, 0, none⟩ rfl
  have hgz : g < w.heap.size := (Row.holds h).2
  have hs9 := hs.out
  have F := Lib.hid (cindex57 f cb p (some ⟨g, 0, none⟩) l.length cap l w hd ef (fun w' hw => hp w' (hw.mono hBw)))
  have HNONE := Lib.hid (idx_none p l 0); have HSOME := Lib.hid (idx_some p l 0)
  obtain ⟨n, hn⟩ : ∃ n, n = l.length := ⟨_, rfl⟩
  rw [<- hn] at hs hcap hmx hd h hs9 F HSOME ⊢
  have HP := Lib.hid hp
  have HD := Lib.hid hd; have HN := Lib.hid hn; have H := Lib.hid h
  clear hd hn h hp
  generalize idxFrom p 0 l = ix at *
  go_enter Tryz.func173, Tryz.ntmps173
  go_wp2_with fail
  refine F.out.mono ?_
  rintro e w1 ⟨_, rfl, hb1, rfl⟩
  have HB1 := Lib.hid (hb1.mono hBw)
  have hgz1 : g < w1.heap.size := by have := hb1.size; omega
  have H1 := Lib.hid (Row.mono H.out hb1)
  clear hb1 F
  by_cases hix : ix = -1
  · have hall := HNONE.out hix
    have HK := Lib.hid (keep_all hall)
    subst hix
    clear hall HNONE HSOME
    go_wp2
    go_ret
    exact ⟨_, rfl, HB1.out, by rw [HK.out]; exact H1.out⟩
  · obtain ⟨i0, hi0, hi1, hi2, d0, hi3, hi4⟩ := HSOME.out hix
    rw [Nat.zero_add] at hi0
    subst hi0
    have hne : ((i0 : Int) == -1) = false := by rw [beq_eq_false_iff_ne]; omega
    have hk0 : keepD p (l.take (i0 + 1)) = l.take i0 := by rw [keep_snoc hi3, hi4, keep_all hi2]; simp
    have HK0 := Lib.hid hk0
    clear HNONE HSOME hi2 hi3 hi4 hk0 hix
    go_wp2
    go_loopw [5, 6] (fun i j wr => DelRel B (.slice (some ⟨g, 0, none⟩) n cap) w1 n p l i j wr) (fun _ j _ => n - (intOf j).toNat)
    case atStart => exact ⟨i0, i0 + 1, l, rfl, by simp, by omega, hi1, Below.refl _ _, H1.out, rfl, rfl, HK0.out.symm⟩
    case round =>
      clear H1 HK0 hne
      obtain ⟨k, m, l', rfl, rfl, hkm, hmn, hb, hr, hl', hdr, htk⟩ := hrel
      have HB := Lib.hid hb; have HR := Lib.hid hr; have HL' := Lib.hid hl'; have HDR := Lib.hid hdr; have HTK := Lib.hid htk
      have hdots := Lib.hid hr.asDots
      clear hb hr hl' hdr htk
      by_cases hlm : m < n
      · obtain ⟨b, o, x, y, e, hbk, e1, d1, c1, c2⟩ := hdots.out.at_ (k := m) hlm
        obtain ⟨rfl, rfl⟩ : g = b ∧ 0 = o := by simpa using e
        rw [drop_get HDR.out (Nat.le_refl _)] at e1
        simp only [Nat.zero_add] at c1 c2
        have hks := keep_snoc (p := p) e1
        have hbw : Below wr.heap.size wr (wr.alloc (.cells #[.int .i64 x, .int .i64 y] 67)) := by go_grown
        have hbB : B <= wr.heap.size := by have := HB.out.size; have := HB1.out.size; omega
        have fp := HP.out _ ((HB1.out.trans HB.out).trans (hbw.mono hbB)) x y (List.mem_of_getElem? e1)
        have HKS := Lib.hid hks; have E1 := Lib.hid e1; have HBW := Lib.hid hbw
        have C1 := Lib.hid c1; have C2 := Lib.hid c2
        clear hks e1 e d1 hbw
        cases hpp : p (x, y) with
        | true =>
          rw [hpp] at fp
          have FP := Lib.hid fp; have HPP := Lib.hid hpp
          clear fp hpp
          go_wp2_with fail
          refine FP.out.mono ?_
          rintro e w2 ⟨_, rfl, hb2, rfl⟩
          have HB2 := Lib.hid (HBW.out.le hb2)
          clear hb2 FP c1 c2
          go_wp2
          go_roundw
          case rel => exact ⟨k, m + 1, l', rfl, by simp, by omega, hlm, HB.out.trans (HB2.out.mono hbB), Row.mono HR.out HB2.out, HL'.out, by rw [<- List.drop_drop, HDR.out, List.drop_drop], by rw [HTK.out, HKS.out, HPP.out]; simp⟩
          case measure => simp [intOf]; omega
        | false =>
          rw [hpp] at fp
          have FP := Lib.hid fp; have HPP := Lib.hid hpp
          clear fp hpp
          go_wp2_with fail
          refine FP.out.mono ?_
          rintro e w2 ⟨_, rfl, hb2, rfl⟩
          have hbr := HBW.out.le hb2
          have t0 : w2.cell? ⟨wr.heap.size, 0, none⟩ = some (.int .i64 x) := cellKeep hb2 (by simp [go_sem])
          have t1 : w2.cell? ⟨wr.heap.size, 1, none⟩ = some (.int .i64 y) := cellKeep hb2 (by simp [go_sem])
          have hr2 := Row.mono HR.out hbr
          have hkl : k < l'.length := by rw [HL'.out, <- HN.out]; omega
          have hr2' : Row w2 B (.slice (some ⟨g, 0, none⟩) l'.length cap) l' := by rw [HL'.out, <- HN.out]; exact hr2
          obtain ⟨s1, s2⟩ := dcells_get l' k l'[k] (List.getElem?_eq_getElem hkl)
          have f1 := (World.ownsRow.cellAt hr2' (k * 2) (by omega)).trans s1
          have f2 := (World.ownsRow.cellAt hr2' (k * 2 + 1) (by omega)).trans s2
          have z1 := World.ownsRow.frozenAt hr2' (k * 2)
          have z2 := World.ownsRow.frozenAt hr2' (k * 2 + 1)
          have hp := Row.put hr2 hkl x y
          have HPUT := Lib.hid hp; have HBR := Lib.hid hbr; have HKL := Lib.hid hkl
          have hkn : k < n := by omega
          have hbz := hb2.size
          clear hr2 hr2' hp hbr s1 s2 hb2 FP c1 c2
          go_wp2
          go_roundw
          case rel =>
            refine ⟨k + 1, m + 1, l'.set k (x, y), by simp, by simp, by omega, hlm, (HB.out.trans (HBR.out.mono hbB)).trans HPUT.out.2, HPUT.out.1, by rw [List.length_set]; exact HL'.out, ?_, ?_⟩
            · rw [List.drop_set_of_lt (by omega), <- List.drop_drop, HDR.out, List.drop_drop]
            · have hset : (l'.set k (x, y))[k]? = some (x, y) := by rw [List.getElem?_set_self HKL.out]
              rw [take_snoc hset, List.take_set_of_le (Nat.le_refl _), HTK.out, HKS.out, HPP.out]
              rfl
          case measure => simp [intOf]; omega
      · have hfin : l'.take k = keepD p l := by
          have h9 : l.take m = l := List.take_of_length_le (by rw [<- HN.out]; omega)
          have := HTK.out
          rw [h9] at this
          exact this
        have hR' : Row wr B (.slice (some ⟨g, 0, none⟩) l'.length cap) l' := by rw [HL'.out, <- HN.out]; exact HR.out
        have hsl2 := fun w => slice_from_dots (w := w) (A := some ⟨g, 0, none⟩) (n := n) (c := cap) (k := k) (by omega) hcap
        have hsl3 := fun w => slice_to_dots (w := w) (A := some ⟨g, 0, none⟩) (n := n) (c := cap) (k := k) (by omega)
        have hcl := fun ty => run_clear_row Tryz.underlying57 hR' (k := k) (by rw [HL'.out, <- HN.out]; omega) ty
        rw [HL'.out, <- HN.out] at hcl
        obtain ⟨w', hc1, hc2, hc3⟩ := hcl 0
        have hc4 : ∀ ty, (Builtin.clear_ #[57] ty #[.slice (cutA (some ⟨g, 0, none⟩) cap k) (n - k) (cap - k)]).run Tryz.prog wr = .ok (.tuple #[]) w' := fun ty => hc1
        have R2 := Lib.hid hc2; have R3 := Lib.hid hc3; have FIN := Lib.hid hfin
        generalize cutA (some ⟨g, 0, none⟩) cap k = Z at *
        clear hcl hc1 hc2 hc3 hR' hfin
        go_wp2
        go_ret
        exact ⟨_, rfl, (HB1.out.trans HB.out).trans R3.out, by rw [<- FIN.out]; exact R2.out⟩
theorem ddelete (B f : Nat) (cb : Array Value) (p : Dot -> Bool) (v : Value) (l : List Dot) (w : World) (h : Row w B v l) (hs : Small l.length) (hBw : B <= w.heap.size)
    (ef : ∀ args w, (callFunc f args).run Tryz.prog w = .ok (.enter f args) w) (hp : AsksB B w f cb l p) :
    Calls Tryz.prog 173 #[v, .func (.func f) #[] cb] w (RetOwn B (keepD p l) w) := by
  rcases h.2 with ⟨rfl, h0⟩ | ⟨g, cap, cur, rfl, _⟩
  · have hl : l = [] := List.eq_nil_of_length_eq_zero h0
    subst hl
    have F := Lib.hid (cindex57 f cb p none 0 0 [] w Dots.nil_ ef (fun w' hw => hp w' (hw.mono hBw)))
    have e : idxFrom p 0 [] = -1 := rfl
    rw [e] at F
    clear hp h e
    go_enter Tryz.func173, Tryz.ntmps173
    go_wp2_with fail
    refine F.out.mono ?_
    rintro e w1 ⟨_, rfl, hb1, rfl⟩
    go_wp2
    go_ret
    exact ⟨_, rfl, hb1.mono hBw, Row.nil_ _ _⟩
  · exact ddelete_row B g cap f cb p l w h hs hBw ef hp
theorem enterMiss1 : ∀ args w, (callFunc 174 args).run Tryz.prog w = .ok (.enter 174 args) w := enters_of Tryz.func174 (by kernel_rfl) rfl
theorem imiss1 (x y : Int) (N : Nat) (A B : Option Addr) (n ca m cb : Nat) (c : Ctx) (w : World) (h : Con w A n ca B m cb c) (h0 : w.cell? ⟨N, 0, none⟩ = some (.slice A n ca)) (h1 : w.cell? ⟨N, 1, none⟩ = some (.slice B m cb)) :
    Calls Tryz.prog 174 #[.agg #[.int .i64 x, .int .i64 y], .pointer (some ⟨N, 0, none⟩)] w (Ret w (IsB (hasC c (x, y)))) := by
  have hb : Below w.heap.size w (w.alloc (.cells #[.int .i64 x, .int .i64 y] 67)) := by go_grown
  have F := Lib.hid (chas x y A B n ca m cb c _ (h.mono hb))
  have k0 := cellKeep hb h0; have k1 := cellKeep hb h1
  have HB := Lib.hid hb
  clear hb h h0 h1
  go_enter Tryz.func174, Tryz.ntmps174
  go_wp2_with fail
  refine F.out.mono ?_
  rintro e w1 ⟨_, rfl, hb1, rfl⟩
  go_wp2
  go_ret
  exact retB rfl (HB.out.le hb1)
theorem imissing (A B C : Option Addr) (n ca m cb k ck : Nat) (c : Ctx) (l : List Dot) (w : World) (h : Con w A n ca B m cb c) (hl : Dots w C k ck l) (hs : Small k) :
    Calls Tryz.prog 128 #[.agg #[.slice A n ca, .slice B m cb], .slice C k ck] w (Ret w (IsRow w.heap.size (missC c l))) := by
  have hb0 : Below w.heap.size w (w.alloc (conBox A n ca B m cb)) := (Below.refl _ _).alloc (Nat.le_refl _) _
  have y0 : (w.alloc (conBox A n ca B m cb)).cell? ⟨w.heap.size, 0, none⟩ = some (.slice A n ca) := by simp [go_sem]
  have y1 : (w.alloc (conBox A n ca B m cb)).cell? ⟨w.heap.size, 1, none⟩ = some (.slice B m cb) := by simp [go_sem]
  have h0 := h.mono hb0
  have f := dset C k ck l _ (hl.mono hb0) hs
  have hl9 : (unionD l []).length <= k := by have := unionD_length l []; have := hl.len; simp at *; omega
  have F := Lib.hid f; have HB := Lib.hid hb0; have Y0 := Lib.hid y0; have Y1 := Lib.hid y1; have H0 := Lib.hid h0; have HL9 := Lib.hid hl9
  clear f hb0 y0 y1 h0 h hl hl9
  rw [<- miss_filter]
  go_enter Tryz.func128, Tryz.ntmps128
  go_wp2_with fail
  refine F.out.mono ?_
  rintro e w1 ⟨v, rfl, hb1, hr1⟩
  have fd := ddelete (w.alloc (conBox A n ca B m cb)).heap.size 174 #[.pointer (some ⟨w.heap.size, 0, none⟩)] (hasC c) v (unionD l []) w1 hr1 (by have := hs.out; have := HL9.out; unfold Small; omega) hb1.size enterMiss1
    (fun w' hw' x y _ => imiss1 x y w.heap.size A B n ca m cb c w' (H0.out.mono (hb1.trans hw')) (cellKeep (hb1.trans hw') Y0.out) (cellKeep (hb1.trans hw') Y1.out))
  have FD := Lib.hid fd; have HB1 := Lib.hid hb1
  clear fd F hb1 hr1
  go_wp2_with fail
  refine FD.out.mono ?_
  rintro e w2 ⟨v2, rfl, hb2, hr2⟩
  have HB2 := Lib.hid (HB1.out.trans hb2); have HR2 := Lib.hid hr2
  clear hb2 hr2 FD
  go_wp2
  go_ret
  exact ⟨_, rfl, HB.out.le HB2.out, Row.low HR2.out (by have := HB.out.size; omega)⟩
end Go.Proofs.YtphhhnjeojdnkaaGreatDoor

/-
  context.Union, context.Within.
-/
namespace Go.Proofs.YtphhhnjeojdnkaaGreatDoor
open Go.RowKit
end Go.Proofs.YtphhhnjeojdnkaaGreatDoor

/-
  context.Within.
-/
namespace Go.Proofs.YtphhhnjeojdnkaaGreatDoor
open Go.RowKit
end Go.Proofs.YtphhhnjeojdnkaaGreatDoor

/-
  Slices whose elements are records without pointers: what their cells read as; rows of the call's own, and what an append makes of them. (For any element: a bundle says how its cells look.)
-/
namespace Go.Proofs.YtphhhnjeojdnkaaGreatDoor
open Go.RowKit
structure Enc (α : Type) where
  z : Nat
  enc : α -> List Value
  len : ∀ x, (enc x).length = z
  one : ∀ x, ∀ u ∈ enc x, u.oneCell' = true
def Enc.all {α : Type} (e : Enc α) (l : List α) : List Value := l.flatMap e.enc
section
variable {α : Type} {e : Enc α}
theorem Enc.all_cons (x : α) (l : List α) : e.all (x :: l) = e.enc x ++ e.all l := rfl
theorem Enc.all_append (a b : List α) : e.all (a ++ b) = e.all a ++ e.all b := by unfold Enc.all; rw [List.flatMap_append]
theorem Enc.all_length : ∀ l : List α, (e.all l).length = l.length * e.z
  | [] => by simp [Enc.all]
  | x :: l => by rw [Enc.all_cons, List.length_append, e.len, Enc.all_length l, List.length_cons, Nat.add_mul]; omega
theorem Enc.all_get : ∀ (l : List α) (i : Nat) (x : α), l[i]? = some x -> ∀ j u, (e.enc x)[j]? = some u -> (e.all l)[i * e.z + j]? = some u
  | [], i, x, h, _, _, _ => by simp at h
  | a :: l, 0, x, h, j, u, hj => by
    simp at h; subst h
    rw [Enc.all_cons, List.getElem?_append_left (by have := (List.getElem?_eq_some_iff.1 hj).1; omega)]
    simpa using hj
  | a :: l, i + 1, x, h, j, u, hj => by
    have := Enc.all_get l i x (by simpa using h) j u hj
    rw [Enc.all_cons, List.getElem?_append_right (by rw [e.len, Nat.add_mul]; omega)]
    have e2 : (i + 1) * e.z + j - (e.enc a).length = i * e.z + j := by rw [e.len, Nat.add_mul]; omega
    rw [e2]; exact this
theorem Enc.all_at (l : List α) (j : Nat) (u : Value) (h : (e.all l)[j]? = some u) : ∃ i x, l[i]? = some x ∧ ∃ r, (e.enc x)[r]? = some u ∧ j = i * e.z + r := by
  induction l generalizing j with
  | nil => simp [Enc.all] at h
  | cons a l ih =>
    rw [Enc.all_cons] at h
    rcases Nat.lt_or_ge j e.z with hj | hj
    · rw [List.getElem?_append_left (by rw [e.len]; exact hj)] at h
      exact ⟨0, a, rfl, j, h, by omega⟩
    · rw [List.getElem?_append_right (by rw [e.len]; exact hj), e.len] at h
      obtain ⟨i, x, h1, r, h2, h3⟩ := ih _ h
      exact ⟨i + 1, x, by simpa using h1, r, h2, by rw [Nat.add_mul]; omega⟩
theorem Enc.all_one (l : List α) : ∀ u ∈ e.all l, u.oneCell' = true := by
  intro u hu
  obtain ⟨j, hj⟩ := List.getElem?_of_mem hu
  obtain ⟨_, x, _, r, h, _⟩ := Enc.all_at l j u hj
  exact e.one x u (List.mem_of_getElem? h)
structure Sl (e : Enc α) (w : World) (A : Option Addr) (n c : Nat) (l : List α) : Prop where
  len : n = l.length
  cap : n <= c
  max : c <= maxLen
  nil : A = none -> c = 0
  cell : ∀ i x, l[i]? = some x -> ∃ b o, A = some ⟨b, o, none⟩ ∧ b < w.heap.size ∧ ∀ j u, (e.enc x)[j]? = some u -> w.cell? ⟨b, o + i * e.z + j, none⟩ = some u
def IsSl (e : Enc α) (l : List α) (w : World) (v : Value) : Prop := ∃ A n c, v = .slice A n c ∧ Sl e w A n c l
def OwnSl (e : Enc α) (ty : TypeId) (w : World) (B : Nat) (v : Value) (l : List α) : Prop := w.ownsRow B ty e.z v l.length (e.all l)
def IsOwn (e : Enc α) (ty : TypeId) (B : Nat) (l : List α) (w : World) (v : Value) : Prop := OwnSl e ty w B v l
variable {w w' : World} {A : Option Addr} {n c B : Nat} {l k : List α} {ty : TypeId} {v : Value}
theorem Sl.mono (h : Sl e w A n c l) (hb : Below w.heap.size w w') : Sl e w' A n c l :=
  ⟨h.len, h.cap, h.max, h.nil, fun i x hi => by
    obtain ⟨b, o, rfl, hlt, h1⟩ := h.cell i x hi
    exact ⟨b, o, rfl, Nat.lt_of_lt_of_le hlt hb.size, fun j u hj => (hb.cell (p := ⟨b, _, none⟩) hlt).trans (h1 j u hj)⟩⟩
theorem Sl.big (h : Sl e w A n c l) : n <= 9223372036854775807 := by have := h.cap; have := h.max; unfold maxLen at this; omega
theorem Sl.nil_ (e : Enc α) (w : World) : Sl e w none 0 0 [] := ⟨rfl, Nat.le_refl _, by unfold maxLen; omega, fun _ => rfl, fun i x h => by simp at h⟩
theorem Sl.at_ (h : Sl e w A n c l) {i : Nat} (hi : i < n) : ∃ b o x, A = some ⟨b, o, none⟩ ∧ b < w.heap.size ∧ l[i]? = some x ∧ l.drop i = x :: l.drop (i + 1) ∧ ∀ j u, (e.enc x)[j]? = some u -> w.cell? ⟨b, o + i * e.z + j, none⟩ = some u := by
  have hl : i < l.length := by have := h.len; omega
  obtain ⟨b, o, e1, hb, h1⟩ := h.cell i l[i] (List.getElem?_eq_getElem hl)
  exact ⟨b, o, l[i], e1, hb, List.getElem?_eq_getElem hl, by rw [List.drop_eq_getElem_cons hl], h1⟩
theorem Sl.cells (h : Sl e w A n c l) {a : Addr} (hA : A = some a) (j : Nat) (u : Value) (hu : (e.all l)[j]? = some u) : w.cell? (a.add j) = some u := by
  obtain ⟨i, x, hi, r, hr, rfl⟩ := Enc.all_at l j u hu
  obtain ⟨b, o, e1, _, h1⟩ := h.cell i x hi
  rw [hA] at e1; cases e1
  rw [add_lit, <- Nat.add_assoc]
  exact h1 r u hr
theorem million_le : 1000000 <= maxLen := by unfold maxLen; decide
theorem Sl.new (e : Enc α) (w : World) (l : List α) (hl : l.length <= 1000000) (cs : Array Value) (hcs : cs.toList = e.all l) (ty : TypeId) : Sl e (w.alloc (.cells cs ty)) (some ⟨w.heap.size, 0, none⟩) l.length l.length l := by
  have hlt : w.heap.size < (w.alloc (.cells cs ty)).heap.size := (Array.getElem?_eq_some_iff.1 (heap_alloc_new w _)).1
  refine ⟨rfl, Nat.le_refl _, Nat.le_trans hl million_le, (fun e => nomatch e), fun i x hi => ⟨w.heap.size, 0, rfl, hlt, fun j u hj => ?_⟩⟩
  have h1 := Enc.all_get l i x hi j u hj
  rw [<- hcs] at h1
  rw [Nat.zero_add, cell_of_row _ _ _ cs ty (0, 0) (heap_alloc_new w _), <- Array.getElem?_toList]
  exact h1
theorem OwnSl.mono (h : OwnSl e ty w B v l) (hb : Below w.heap.size w w') : OwnSl e ty w' B v l := by
  refine ⟨h.1, ?_⟩
  rcases h.2 with h2 | ⟨g, cap, cur, hv, hg, hh, r⟩
  · exact .inl h2
  · exact .inr ⟨g, cap, cur, hv, hg, (hb.block g (Array.getElem?_eq_some_iff.1 hh).1).trans hh, r⟩
theorem OwnSl.low (h : OwnSl e ty w B v l) {B' : Nat} (hB : B' <= B) : OwnSl e ty w B' v l := by
  refine ⟨h.1, ?_⟩
  rcases h.2 with h2 | ⟨g, cap, cur, hv, hg, r⟩
  · exact .inl h2
  · exact .inr ⟨g, cap, cur, hv, by omega, r⟩
theorem OwnSl.own (h : OwnSl e ty w B v l) : ∀ q, v.ownBlock = some q -> B <= q ∧ q < w.heap.size := World.ownsRow.lt h
theorem OwnSl.grown {w1 : World} {row : Option Nat} (h : OwnSl e ty w B v l) (hg : w.grownBy w1 row) (hne : v.ownBlock = none ∨ v.ownBlock ≠ row) : OwnSl e ty w1 B v l := World.ownsRow.kept h hg hne
theorem OwnSl.nil_ (e : Enc α) (ty : TypeId) (w : World) (B : Nat) : OwnSl e ty w B (.slice none 0 0) [] := World.ownsRow_nil w B _ _
theorem OwnSl.sl (h : OwnSl e ty w B v l) : ∃ A c, v = .slice A l.length c ∧ Sl e w A l.length c l := by
  rcases h.2 with ⟨rfl, h0⟩ | ⟨g, cap, cur, rfl, hg, hh, hn, hm, hs, ht⟩
  · have : l = [] := List.eq_nil_of_length_eq_zero h0
    subst this
    exact ⟨none, 0, rfl, Sl.nil_ e w⟩
  · refine ⟨some ⟨g, 0, none⟩, cap, rfl, rfl, hn, hm, (fun e => nomatch e), fun i x hi => ⟨g, 0, rfl, (Array.getElem?_eq_some_iff.1 hh).1, fun j u hj => ?_⟩⟩
    have := World.ownsRow.cells (v := .slice (some ⟨g, 0, none⟩) l.length cap) h rfl _ u (Enc.all_get l i x hi j u hj)
    rw [add_lit, <- Nat.add_assoc] at this
    exact this
theorem IsOwn.sl (h : IsOwn e ty B l w v) : IsSl e l w v := let ⟨A, c, e1, h'⟩ := OwnSl.sl h; ⟨A, _, c, e1, h'⟩
structure Inf (P : Program) (ty : TypeId) (e : Enc α) (bytes : Nat) : Prop where
  ex : ∃ (i : TypeInfo) (z : Value), P.info? ty = some i ∧ i.zero = some z ∧ i.size = e.z ∧ i.bytes = bytes ∧ z.cells.size = e.z
  pos : 0 < e.z
  by_ : bytes <= 1000
theorem run_appS {P : Program} {bytes : Nat} {t rt : TypeId} (inf : Inf P ty e bytes) (ht : P.underlying t = some (.slice ty)) (h : OwnSl e ty w B v l) (hk : Sl e w A n c k) (hs : l.length + k.length <= 1000000000) (hB : B <= w.heap.size) :
    ∃ v' w', (Builtin.append_ #[t, t] rt #[v, .slice A n c]).run P w = .ok v' w' ∧ OwnSl e ty w' B v' (l ++ k) ∧ w.grownBy w' v.ownBlock ∧ (v'.ownBlock = v.ownBlock ∨ v'.ownBlock = some w.heap.size) := by
  obtain ⟨i, z, hi, hz, hsz, hby, hzs⟩ := inf.ex
  have hpos := inf.pos
  have hbb := inf.by_
  cases A with
  | none =>
    have hc := hk.nil rfl
    have hn : n = 0 := by have := hk.cap; omega
    subst hc; subst hn
    have hk0 : k = [] := List.eq_nil_of_length_eq_zero hk.len.symm
    subst hk0
    refine ⟨v, w, run_append_owned_none (P := P) (w := w) B t rt ty i e.z ht hi v l.length (e.all l) h, by rw [List.append_nil]; exact h, ⟨rfl, rfl, rfl, Nat.le_refl _, fun _ _ _ => rfl⟩, .inl rfl⟩
  | some a =>
    have hkl := hk.len
    obtain ⟨v', w', h1, h2, h3, _, h5⟩ := run_append_own_at (P := P) w B t rt ty i z e.z bytes ht hi hz hsz hby hzs hpos v l.length (e.all l) h a n c (e.all k) (by rw [Enc.all_length, hk.len]) (fun j u hu => hk.cells rfl j u hu) (Enc.all_one k)
      (by rw [hkl]; unfold maxLen; omega) (by rw [hkl]; exact Nat.le_trans (Nat.mul_le_mul hs hbb) (by decide)) hB
    refine ⟨v', w', h1, ?_, h3, h5⟩
    unfold OwnSl
    rw [List.length_append, Enc.all_append]
    rw [hkl] at h2
    exact h2
theorem wpList_appS {P : Program} {bytes : Nat} {t : TypeId} {ops : Array Oper} {rest : List Oper} {o : Oper} {a : Act} {Q : Exit -> Act -> World -> Prop} {s x : Operand} (inf : Inf P ty e bytes)
    (hgd : o.guard = none) (ho : o.op = .call { callee := .builtin .append, args := #[s, x], argTypes := #[t, t] }) (ht : P.underlying t = some (.slice ty)) (hsv : a.eval s = v) (hxv : a.eval x = .slice A n c)
    (h : OwnSl e ty w B v l) (hk : Sl e w A n c k) (hs : l.length + k.length <= 1000000000) (hB : B <= w.heap.size)
    (K : ∀ v' w', OwnSl e ty w' B v' (l ++ k) -> w.grownBy w' v.ownBlock -> (v'.ownBlock = v.ownBlock ∨ v'.ownBlock = some w.heap.size) -> wpList P ops Q rest (a.put o.dst v') w') : wpList P ops Q (o :: rest) a w := by
  refine wpList_plain hgd fun K' hK => ?_
  obtain ⟨v', w', hr, h2, h3, h4⟩ := run_appS (rt := o.type) inf ht h hk hs hB
  unfold Oper.wp
  simp [execOp, ho, resolve, invoke, builtin, hsv, hxv, hr, Result.andThen]
  exact hK _ _ (K v' w' h2 h3 h4)
end
instance {α : Type} (e : Enc α) (l : List α) : Grows (IsSl e l) := ⟨fun hb ⟨A, n, c, e1, h⟩ => ⟨A, n, c, e1, h.mono hb⟩⟩
instance {α : Type} (e : Enc α) (ty : TypeId) (B : Nat) (l : List α) : Grows (IsOwn e ty B l) := ⟨fun hb h => OwnSl.mono h hb⟩
def encB : Enc UInt8 := ⟨1, fun x => [.int .u8 x.toNat], fun _ => rfl, fun x u hu => by rw [List.mem_singleton.1 hu]; rfl⟩
abbrev IsBytes (l : List UInt8) := IsSl encB l
abbrev strV (l : List UInt8) : Value := .string ⟨⟨l⟩⟩
end Go.Proofs.YtphhhnjeojdnkaaGreatDoor

/-
  Bits of unsigned numbers.
-/
namespace Go.Proofs.YtphhhnjeojdnkaaGreatDoor
open Go.RowKit
theorem wrap_un {k : IntKind} (hk : k.signed = false) {n : Nat} (h : n < 2 ^ k.bits) : k.wrap (n : Int) = n := by
  unfold IntKind.wrap
  simp only [hk, Bool.false_and, Bool.false_eq_true, if_false]
  have : ((2 : Int) ^ k.bits) = ((2 ^ k.bits : Nat) : Int) := by norm_cast
  rw [this]
  exact_mod_cast Nat.mod_eq_of_lt h
theorem ofInt_nat (k n : Nat) : BitVec.ofInt k (n : Int) = BitVec.ofNat k n := by
  apply BitVec.eq_of_toNat_eq
  rw [BitVec.toNat_ofInt, BitVec.toNat_ofNat]
  have : ((2 ^ k : Nat) : Int) = ((2 ^ k : Nat) : Int) := rfl
  omega
section
variable {k : IntKind} {a b : Nat}
theorem bits_and_nat (hk : k.signed = false) (ha : a < 2 ^ k.bits) (hb : b < 2 ^ k.bits) : Go.bits .and k (a : Int) (b : Int) = ((a &&& b : Nat) : Int) := by
  unfold Go.bits
  simp only [ofInt_nat]
  rw [BitVec.toNat_and, BitVec.toNat_ofNat, BitVec.toNat_ofNat, Nat.mod_eq_of_lt ha, Nat.mod_eq_of_lt hb]
  exact wrap_un hk (Nat.lt_of_le_of_lt Nat.and_le_left ha)
theorem bits_or_nat (hk : k.signed = false) (ha : a < 2 ^ k.bits) (hb : b < 2 ^ k.bits) : Go.bits .or k (a : Int) (b : Int) = ((a ||| b : Nat) : Int) := by
  unfold Go.bits
  simp only [ofInt_nat]
  rw [BitVec.toNat_or, BitVec.toNat_ofNat, BitVec.toNat_ofNat, Nat.mod_eq_of_lt ha, Nat.mod_eq_of_lt hb]
  exact wrap_un hk (Nat.or_lt_two_pow ha hb)
theorem bits_xor_nat (hk : k.signed = false) (ha : a < 2 ^ k.bits) (hb : b < 2 ^ k.bits) : Go.bits .xor k (a : Int) (b : Int) = ((a ^^^ b : Nat) : Int) := by
  unfold Go.bits
  simp only [ofInt_nat]
  rw [BitVec.toNat_xor, BitVec.toNat_ofNat, BitVec.toNat_ofNat, Nat.mod_eq_of_lt ha, Nat.mod_eq_of_lt hb]
  exact wrap_un hk (Nat.xor_lt_two_pow ha hb)
end
theorem or_u8 {a b : Nat} (ha : a < 256) (hb : b < 256) : Go.bits .or .u8 (a : Int) (b : Int) = ((a ||| b : Nat) : Int) := bits_or_nat (k := .u8) rfl ha hb
theorem xor_u8 {a b : Nat} (ha : a < 256) (hb : b < 256) : Go.bits .xor .u8 (a : Int) (b : Int) = ((a ^^^ b : Nat) : Int) := bits_xor_nat (k := .u8) rfl ha hb
theorem wrap_u8 {a : Nat} (ha : a < 256) : IntKind.u8.wrap (a : Int) = a := wrap_un (k := .u8) rfl ha
theorem and_u32 {a b : Nat} (ha : a < 4294967296) (hb : b < 4294967296) : Go.bits .and .u32 (a : Int) (b : Int) = ((a &&& b : Nat) : Int) := bits_and_nat (k := .u32) rfl ha hb
theorem xor_u32 {a b : Nat} (ha : a < 4294967296) (hb : b < 4294967296) : Go.bits .xor .u32 (a : Int) (b : Int) = ((a ^^^ b : Nat) : Int) := bits_xor_nat (k := .u32) rfl ha hb
theorem wrap_u32 {a : Nat} (ha : a < 4294967296) : IntKind.u32.wrap (a : Int) = a := wrap_un (k := .u32) rfl ha
theorem wrap_u64 {a : Nat} (ha : a < 18446744073709551616) : IntKind.u64.wrap (a : Int) = a := wrap_un (k := .u64) rfl ha
def poly : Nat := 3988292384
def half (n : Nat) : Nat := if n % 2 = 1 then (n / 2) ^^^ poly else n / 2
def tabN (i : Nat) : Nat := half (half (half (half (half (half (half (half i)))))))
def stepT (n : Nat) (x : UInt8) : Nat := tabN ((n % 256) ^^^ x.toNat) ^^^ (n / 256)
def stepB (n : Nat) (x : UInt8) : Nat := tabN (n ^^^ x.toNat)
theorem half_lt {n : Nat} (h : n < 4294967296) : half n < 4294967296 := by
  unfold half
  split
  · exact Nat.xor_lt_two_pow (n := 32) (by omega) (by unfold poly; omega)
  · omega
theorem tab_lt {n : Nat} (h : n < 4294967296) : tabN n < 4294967296 := half_lt (half_lt (half_lt (half_lt (half_lt (half_lt (half_lt (half_lt h)))))))
theorem xor_div2 (a b : Nat) : (a ^^^ b) / 2 = (a / 2) ^^^ (b / 2) := by
  have := Nat.xor_div_two_pow (a := a) (b := b) (n := 1)
  simpa using this
theorem xor_mod2 (a b : Nat) : (a ^^^ b) % 2 = (a % 2 + b % 2) % 2 := by
  have := Nat.xor_mod_two_pow (a := a) (b := b) (n := 1)
  have h : (a ^^^ b) % 2 = (a % 2) ^^^ (b % 2) := by simpa using this
  rw [h]
  rcases Nat.mod_two_eq_zero_or_one a with h1 | h1 <;> rcases Nat.mod_two_eq_zero_or_one b with h2 | h2 <;> rw [h1, h2] <;> rfl
theorem half_xor (a b : Nat) : half (a ^^^ b) = half a ^^^ half b := by
  unfold half
  rw [xor_div2, xor_mod2]
  rcases Nat.mod_two_eq_zero_or_one a with h1 | h1 <;> rcases Nat.mod_two_eq_zero_or_one b with h2 | h2 <;> simp only [h1, h2]
  · simp
  · simp [Nat.xor_assoc]
  · simp only [Nat.zero_ne_one, if_false, if_true]
    rw [Nat.xor_assoc, Nat.xor_comm (b / 2) poly, <- Nat.xor_assoc]
  · simp only [if_true, show ((1 + 1) % 2 = 1) = False by simp, if_false]
    have e : (a / 2 ^^^ poly) ^^^ (b / 2 ^^^ poly) = (a / 2 ^^^ b / 2) ^^^ (poly ^^^ poly) := by
      rw [Nat.xor_assoc, Nat.xor_assoc]
      congr 1
      rw [<- Nat.xor_assoc, <- Nat.xor_assoc, Nat.xor_comm poly (b / 2)]
    rw [e, Nat.xor_self, Nat.xor_zero]
theorem tab_xor (a b : Nat) : tabN (a ^^^ b) = tabN a ^^^ tabN b := by
  unfold tabN
  rw [half_xor, half_xor, half_xor, half_xor, half_xor, half_xor, half_xor, half_xor]
theorem half_even {n : Nat} : half (2 * n) = n := by
  unfold half
  rw [if_neg (by omega)]; omega
theorem tab_high (n : Nat) : tabN (n * 256) = n := by
  unfold tabN
  have : n * 256 = 2 * (2 * (2 * (2 * (2 * (2 * (2 * (2 * n))))))) := by omega
  rw [this, half_even, half_even, half_even, half_even, half_even, half_even, half_even, half_even]
theorem split_low (n : Nat) : n = (n % 256) ^^^ (n / 256 * 256) := by
  apply Nat.eq_of_testBit_eq
  intro i
  rw [Nat.testBit_xor]
  have h1 : (n % 256).testBit i = (decide (i < 8) && n.testBit i) := by
    have := Nat.testBit_mod_two_pow n 8 i
    simpa using this
  have h2 : (n / 256 * 256).testBit i = (decide (8 <= i) && n.testBit i) := by
    have e : n / 256 * 256 = (n >>> 8) <<< 8 := by rw [Nat.shiftRight_eq_div_pow, Nat.shiftLeft_eq]
    rw [e, Nat.testBit_shiftLeft, Nat.testBit_shiftRight]
    by_cases h : 8 <= i
    · simp [h]
    · simp [h]
  rw [h1, h2]
  by_cases h : i < 8
  · have : ¬ 8 <= i := by omega
    simp [h, this]
  · have : 8 <= i := by omega
    simp [h, this]
theorem step_eq (n : Nat) (x : UInt8) : stepT n x = stepB n x := by
  unfold stepT stepB
  have e : n ^^^ x.toNat = ((n % 256) ^^^ x.toNat) ^^^ (n / 256 * 256) := by
    have h := split_low n
    rw [Nat.xor_assoc, Nat.xor_comm x.toNat, <- Nat.xor_assoc, <- h]
  rw [e, tab_xor ((n % 256) ^^^ x.toNat), tab_high]
def crcFrom (n : Nat) (l : List UInt8) : Nat := l.foldl stepT n
def crcS (l : List UInt8) : Nat := 4294967295 - crcFrom 4294967295 l
end Go.Proofs.YtphhhnjeojdnkaaGreatDoor

/-
  The check sum: the reference's steps.
-/
namespace Go.Proofs.YtphhhnjeojdnkaaGreatDoor
open Go.RowKit
abbrev IsK (k : IntKind) (n : Nat) := Is (.int k (n : Int))
theorem retK {w w' : World} {k : IntKind} {n : Nat} {z : Int} (e : z = (n : Int)) (hb : Below w.heap.size w w') : Ret w (IsK k n) (.returned (.int k z)) w' := ⟨_, rfl, hb, by rw [e]; rfl⟩
def halves : Nat -> Nat -> Nat
  | 0, n => n
  | k + 1, n => halves k (half n)
def HalfRel (w : World) (n : Nat) (s i : Value) (wr : World) : Prop :=
  ∃ k m : Nat, i = .int .i64 k ∧ s = .int .u32 m ∧ m < 4294967296 ∧ k <= 8 ∧ Below w.heap.size w wr ∧ halves 8 n = halves (8 - k) m
theorem HalfRel.next {w wr : World} {n k m m' : Nat} (hm : m < 4294967296) (hk : k < 8) (hb : Below w.heap.size w wr) (hs : halves 8 n = halves (8 - k) m) (e : m' = half m) {i : Value} {z : Int} (hi : i = .int .i64 ((k : Int) + 1)) (hz : z = (m' : Int)) : HalfRel w n (.int .u32 z) i wr :=
  ⟨k + 1, m', by rw [hi]; simp, by rw [hz], by rw [e]; exact half_lt hm, hk, hb, by rw [hs, e, show 8 - k = (8 - (k + 1)) + 1 by omega]; rfl⟩
theorem half_even_ {m : Nat} (h : ((m : Int) % 2 == 1) = false) : ((m : Int) / 2) = (half m : Nat) := by
  have h0 := beq_eq_false_iff_ne.1 h
  unfold half
  rw [if_neg (by omega)]; omega
theorem half_odd_ {m : Nat} (hm : m < 4294967296) (h : ((m : Int) % 2 == 1) = true) : Go.bits .xor .u32 ((m : Int) / 2) 3988292384 = (half m : Nat) := by
  have h0 := beq_iff_eq.1 h
  unfold half
  rw [if_pos (by omega)]
  exact xor_u32 (a := m / 2) (b := poly) (by omega) (by unfold poly; omega)
theorem rstep (n : Nat) (x : UInt8) (w : World) (hn : n < 4294967296) :
    Calls Tryz.prog 87 #[.int .u32 n, .int .u8 x.toNat] w (Ret w (IsK .u32 (stepB n x))) := by
  have hx : x.toNat < 4294967296 := by have := x.toNat_lt; omega
  have hw := wrap_u32 hx
  have hxr := xor_u32 hn hx
  have hm : n ^^^ x.toNat < 4294967296 := Nat.xor_lt_two_pow (n := 32) hn hx
  go_enter Tryz.func87, Tryz.ntmps87
  go_wp2
  go_loopw [0, 5] (fun s i wr => HalfRel w (n ^^^ x.toNat) s i wr) (fun _ i _ => 8 - (intOf i).toNat)
  case atStart => exact ⟨0, _, rfl, rfl, hm, by omega, Below.refl _ _, rfl⟩
  case round =>
    obtain ⟨k, m, rfl, rfl, hm, hk, hbw, hs⟩ := hrel
    by_cases hlt : k < 8
    · have HS := Lib.hid hs; clear hs
      go_wp2
      · rename_i ht
        refine ⟨HalfRel.next hm hlt hbw HS.out rfl rfl (half_odd_ hm ht), ?_⟩
        simp [intOf]; omega
      · rename_i ht
        refine ⟨HalfRel.next hm hlt hbw HS.out rfl rfl (half_even_ ht), ?_⟩
        simp [intOf]; omega
    · have hk8 : k = 8 := by omega
      subst hk8
      have e : stepB n x = m := hs
      have E := Lib.hid e
      clear hs e
      go_wp2
      go_ret
      exact retK (by rw [E.out]) hbw
def CrcRel (f : Nat -> UInt8 -> Nat) (w : World) (n0 n : Nat) (l : List UInt8) (s i : Value) (wr : World) : Prop :=
  ∃ k m : Nat, i = .int .i64 k ∧ s = .int .u32 m ∧ m < 4294967296 ∧ k <= n ∧ Below w.heap.size w wr ∧ l.foldl f n0 = (l.drop k).foldl f m
theorem CrcRel.next {f : Nat -> UInt8 -> Nat} {w wr : World} {n0 n k m m' : Nat} {l : List UInt8} {x : UInt8} {i : Value} (hm : m' < 4294967296) (hk : k < n) (hb : Below w.heap.size w wr) (hs : l.foldl f n0 = (l.drop k).foldl f m) (hd : l.drop k = x :: l.drop (k + 1)) (e : m' = f m x) (hi : i = .int .i64 ((k : Int) + 1)) : CrcRel f w n0 n l (.int .u32 m') i wr :=
  ⟨k + 1, m', by rw [hi]; simp, rfl, hm, hk, hb, by rw [hs, hd, e]; rfl⟩
theorem Sl.byte {w : World} {A : Option Addr} {n c : Nat} {l : List UInt8} (h : Sl encB w A n c l) {i : Nat} (hi : i < n) : ∃ b o x, A = some ⟨b, o, none⟩ ∧ b < w.heap.size ∧ l[i]? = some x ∧ l.drop i = x :: l.drop (i + 1) ∧ w.cell? ⟨b, o + i, none⟩ = some (.int .u8 x.toNat) := by
  obtain ⟨b, o, x, h1, h2, h3, h4, h5⟩ := h.at_ hi
  refine ⟨b, o, x, h1, h2, h3, h4, ?_⟩
  have := h5 0 _ rfl
  simpa [encB] using this
theorem stepB_lt {n : Nat} {x : UInt8} (h : n < 4294967296) : stepB n x < 4294967296 := tab_lt (Nat.xor_lt_two_pow (n := 32) h (by have := x.toNat_lt; omega))
theorem fold_same (n : Nat) (l : List UInt8) : l.foldl stepB n = crcFrom n l := by
  unfold crcFrom
  congr 1
  funext n x
  exact (step_eq n x).symm
theorem rupdate0 (A : Option Addr) (n c : Nat) (l : List UInt8) (w : World) (h : Sl encB w A n c l) :
    Calls Tryz.prog 59 #[.int .u32 0, .slice A n c] w (Ret w (IsK .u32 (crcS l))) := by
  have hn := h.big
  go_enter Tryz.func59, Tryz.ntmps59
  go_wp2
  go_loopw [5, 6] (fun s i wr => CrcRel stepB w 4294967295 n l s i wr) (fun _ i _ => n - (intOf i).toNat)
  case atStart => exact ⟨0, 4294967295, rfl, rfl, by omega, by omega, Below.refl _ _, rfl⟩
  case round =>
    obtain ⟨k, m, rfl, rfl, hm, hk, hbw, hs⟩ := hrel
    by_cases hlt : k < n
    · obtain ⟨b, o, x, rfl, -, -, d1, c1⟩ := (h.mono hbw).byte hlt
      have HS := Lib.hid hs; have D := Lib.hid d1; clear hs d1
      have C := Lib.hid (rstep m x wr hm)
      go_wp2_with (go_at_call 87; ((with_reducible refine C.out.mono ?_); rintro e w1 ⟨_, rfl, hb1, rfl⟩))
      go_roundw
      case rel => exact CrcRel.next (stepB_lt hm) hlt (hbw.le hb1) HS.out D.out rfl rfl
      case measure => simp [intOf]; omega
    · have e : crcS l = 4294967295 - m := by unfold crcS; rw [<- fold_same, hs, List.drop_of_length_le (by rw [<- h.len]; omega)]; rfl
      have E := Lib.hid e; clear hs e
      go_wp2
      go_ret
      exact retK (by rw [E.out]; omega) hbw
theorem rsum (A : Option Addr) (n c : Nat) (l : List UInt8) (w : World) (h : Sl encB w A n c l) :
    Calls Tryz.prog 30 #[.slice A n c] w (Ret w (IsK .u32 (crcS l))) := by
  have C := Lib.hid (rupdate0 A n c l w h); clear h
  go_enter Tryz.func30, Tryz.ntmps30
  go_wp2_with (go_at_call 59; ((with_reducible refine C.out.mono ?_); rintro e w1 ⟨_, rfl, hb1, rfl⟩))
  go_ret
  exact retK rfl hb1
end Go.Proofs.YtphhhnjeojdnkaaGreatDoor

/-
  Bytes as strings; bytes.Equal; are two calls the same.
-/
namespace Go.Proofs.YtphhhnjeojdnkaaGreatDoor
open Go.RowKit
theorem strOf_eq (l : List UInt8) : strOfNums (l.map fun x => (x.toNat : Int)) = ⟨⟨l⟩⟩ := by
  unfold strOfNums
  congr 1
  simp only [List.map_map]
  congr 1
  conv => rhs; rw [<- List.map_id l]
  apply List.map_congr_left
  intro x _
  simp
theorem conv_bytes {w : World} {A : Option Addr} {n c : Nat} {l : List UInt8} (h : Sl encB w A n c l) : (convert 22 9 (.slice A n c)).run Tryz.prog w = .ok (strV l) w := by
  cases A with
  | none =>
    have hc := h.nil rfl
    have hn : n = 0 := by have := h.cap; omega
    have hl : l = [] := List.eq_nil_of_length_eq_zero (by have := h.len; omega)
    subst hl
    exact run_convert_bytes_nil (P := Tryz.prog) w _ 5 Tryz.underlying22 Tryz.underlying5 n c _ Tryz.underlying9
  | some a =>
    have hl : (loadCells a n).run Tryz.prog w = .ok ((l.map fun x => (x.toNat : Int)).map (Value.int .u8)).toArray w := by
      have := run_loadCells_list (P := Tryz.prog) w a ((l.map fun x => (x.toNat : Int)).map (Value.int .u8)) (fun j v hj => by
        simp only [List.getElem?_map, Option.map_eq_some_iff] at hj
        obtain ⟨z, ⟨x, hx, rfl⟩, rfl⟩ := hj
        obtain ⟨b, o, e1, _, h1⟩ := h.cell j x hx
        cases e1
        have := h1 0 (.int .u8 x.toNat) rfl
        rw [add_lit]
        simpa [encB] using this)
      simpa [h.len] using this
    rw [run_convert_bytes_string w _ _ 5 _ n c Tryz.underlying22 Tryz.underlying5 Tryz.underlying9, run_bytesToString w a n c _ hl, foldl_push_bytes]
    have := strOf_eq l
    unfold strOfNums at this
    have e : (ByteArray.empty).data = #[] := rfl
    rw [e]
    simp only [Array.empty_append]
    exact congrArg (fun s => Result.ok (Value.string s) w) this
structure CallS where
  op : Int
  key : List UInt8
  other : List UInt8
  item : List UInt8
  qty : Int
  data : List UInt8
  deriving DecidableEq
def callV (c : CallS) (A : Option Addr) (n m : Nat) : Value := .agg #[.int .i64 c.op, strV c.key, strV c.other, strV c.item, .int .i64 c.qty, .slice A n m]
def callEq (a b : CallS) : Bool := a.op == b.op && a.key == b.key && a.other == b.other && a.item == b.item && a.qty == b.qty && a.data == b.data
theorem rsameCall (a b : CallS) (A B : Option Addr) (n c m d : Nat) (w : World) (ha : Sl encB w A n c a.data) (hb : Sl encB w B m d b.data) :
    Calls Tryz.prog 61 #[callV a A n c, callV b B m d] w (Ret w (IsB (callEq a b))) := by
  obtain ⟨o1, k1, h1, i1, q1, l1⟩ := a
  obtain ⟨o2, k2, h2, i2, q2, l2⟩ := b
  unfold callV callEq
  simp only at ha hb ⊢
  have C1 := Lib.hid (fun (w1 : World) (hb1 : Below w.heap.size w w1) => conv_bytes (ha.mono hb1))
  have C2 := Lib.hid (fun (w1 : World) (hb1 : Below w.heap.size w w1) => conv_bytes (hb.mono hb1))
  clear ha hb
  go_enter Tryz.func61, Tryz.ntmps61
  go_wp2
  · rw [C1.out _ (by go_grown)]
    go_wp2
    rw [C2.out _ (by go_grown)]
    go_wp2
    go_ret
    exact retB (by clear C1 C2; simp_all) (by go_grown)
  all_goals go_ret
  all_goals exact retB (by clear C1 C2; simp_all) (by go_grown)
end Go.Proofs.YtphhhnjeojdnkaaGreatDoor

/-
  Letters by their codes; a byte of some bytes.
-/
namespace Go.Proofs.YtphhhnjeojdnkaaGreatDoor
open Go.RowKit
def letter (base n : Nat) : List UInt8 := [UInt8.ofNat (base + n % 4)]
theorem and3 (n : Nat) (h : n < 9223372036854775808) : Go.bits .and .i64 (n : Int) 3 = ((n % 4 : Nat) : Int) := by
  unfold Go.bits
  have e3 : (3 : Int) = ((3 : Nat) : Int) := rfl
  rw [e3]
  simp only [ofInt_nat]
  rw [BitVec.toNat_and, BitVec.toNat_ofNat, BitVec.toNat_ofNat]
  have h1 : n % 2 ^ IntKind.i64.bits = n := Nat.mod_eq_of_lt (Nat.lt_of_lt_of_le h (by decide))
  have h2 : 3 % 2 ^ IntKind.i64.bits = 3 := by decide
  have h3 : n &&& 3 = n % 4 := Nat.and_two_pow_sub_one_eq_mod n 2
  rw [h1, h2, h3]
  have h4 : n % 4 < 4 := Nat.mod_lt _ (by decide)
  generalize n % 4 = r at h4
  have : r = 0 ∨ r = 1 ∨ r = 2 ∨ r = 3 := by omega
  rcases this with rfl | rfl | rfl | rfl <;> decide
theorem rkey (n : Nat) (w : World) : Calls Tryz.prog 28 #[.int .i64 n] w (Ret w (Is (strV (letter 97 n)))) := by
  have h4 : n % 4 = 0 ∨ n % 4 = 1 ∨ n % 4 = 2 ∨ n % 4 = 3 := by omega
  rcases h4 with h | h | h | h
  all_goals
    have hi : (n : Int) % 4 = ((n % 4 : Nat) : Int) := by simp
    rw [h] at hi
    have L := Lib.hid (show letter 97 n = [UInt8.ofNat (97 + n % 4)] from rfl)
    rw [h] at L
    clear h
    go_enter Tryz.func28, Tryz.ntmps28
    go_wp2
    go_ret
    refine ⟨_, rfl, Below.refl _ _, ?_⟩
    rw [L.out]
    rfl
theorem ritem (n : Nat) (w : World) : Calls Tryz.prog 26 #[.int .i64 n] w (Ret w (Is (strV (letter 119 n)))) := by
  have h4 : n % 4 = 0 ∨ n % 4 = 1 ∨ n % 4 = 2 ∨ n % 4 = 3 := by omega
  rcases h4 with h | h | h | h
  all_goals
    have hi : (n : Int) % 4 = ((n % 4 : Nat) : Int) := by simp
    rw [h] at hi
    have L := Lib.hid (show letter 119 n = [UInt8.ofNat (119 + n % 4)] from rfl)
    rw [h] at L
    clear h
    go_enter Tryz.func26, Tryz.ntmps26
    go_wp2
    go_ret
    refine ⟨_, rfl, Below.refl _ _, ?_⟩
    rw [L.out]
    rfl
theorem onek (n : Nat) (hn : n < 9223372036854775808) (w : World) : Calls Tryz.prog 23 #[strV [97, 98, 99, 100], .int .i64 n] w (Ret w (Is (strV (letter 97 n)))) := by
  have ha := and3 n hn
  have h4 : n % 4 = 0 ∨ n % 4 = 1 ∨ n % 4 = 2 ∨ n % 4 = 3 := by omega
  clear hn
  rcases h4 with h | h | h | h
  all_goals
    rw [h] at ha
    have L := Lib.hid (show letter 97 n = [UInt8.ofNat (97 + n % 4)] from rfl)
    rw [h] at L
    clear h
    go_enter Tryz.func23, Tryz.ntmps23
    go_wp2
    go_ret
    refine ⟨_, rfl, Below.refl _ _, ?_⟩
    rw [L.out]
    rfl
theorem onei (n : Nat) (hn : n < 9223372036854775808) (w : World) : Calls Tryz.prog 23 #[strV [119, 120, 121, 122], .int .i64 n] w (Ret w (Is (strV (letter 119 n)))) := by
  have ha := and3 n hn
  have h4 : n % 4 = 0 ∨ n % 4 = 1 ∨ n % 4 = 2 ∨ n % 4 = 3 := by omega
  clear hn
  rcases h4 with h | h | h | h
  all_goals
    rw [h] at ha
    have L := Lib.hid (show letter 119 n = [UInt8.ofNat (119 + n % 4)] from rfl)
    rw [h] at L
    clear h
    go_enter Tryz.func23, Tryz.ntmps23
    go_wp2
    go_ret
    refine ⟨_, rfl, Below.refl _ _, ?_⟩
    rw [L.out]
    rfl
end Go.Proofs.YtphhhnjeojdnkaaGreatDoor

/-
  The bytes of a number.
-/
namespace Go.Proofs.YtphhhnjeojdnkaaGreatDoor
open Go.RowKit
theorem infB : Inf Tryz.prog 5 encB 1 := by
  obtain ⟨i, h1, h2, h3, h4⟩ := info_parts (P := Tryz.prog) (show (Tryz.prog.info? 5).map (fun i => (i.zero, i.size, i.bytes)) = some (some (.int .u8 0), 1, 1) by kernel_rfl)
  exact ⟨⟨i, _, h1, h2, h3, h4, rfl⟩, by decide, by decide⟩
abbrev OwnB (w : World) (B : Nat) (v : Value) (l : List UInt8) : Prop := OwnSl encB 5 w B v l
abbrev IsOwnB (B : Nat) (l : List UInt8) : World -> Value -> Prop := IsOwn encB 5 B l
def numB (n : Nat) : List UInt8 := if n < 128 then [UInt8.ofNat n] else UInt8.ofNat (128 + n % 128) :: numB (n / 128)
  termination_by n
  decreasing_by omega
theorem numB_lo {n : Nat} (h : n < 128) : numB n = [UInt8.ofNat n] := by rw [numB, if_pos h]
theorem numB_hi {n : Nat} (h : ¬ n < 128) : numB n = UInt8.ofNat (128 + n % 128) :: numB (n / 128) := by rw [numB, if_neg h]
theorem numB_len {f : Nat} : ∀ {n : Nat}, n < 128 ^ (f + 1) -> (numB n).length <= f + 1 := by
  induction f with
  | zero => intro n h; rw [numB_lo (by simpa using h)]; simp
  | succ f ih =>
    intro n h
    by_cases hn : n < 128
    · rw [numB_lo hn]; simp
    · rw [numB_hi hn, List.length_cons]
      have := ih (n := n / 128) (by rw [Nat.pow_succ] at h; exact Nat.div_lt_of_lt_mul (by omega))
      omega
theorem numB_ten {n : Nat} (h : n < 18446744073709551616) : (numB n).length <= 10 := numB_len (f := 9) (Nat.lt_of_lt_of_le h (by decide))
theorem or128 : ∀ x : Nat, x < 256 -> x ||| 128 = 128 + x % 128 := by decide
theorem bit128 (m : Nat) : Go.bits .or .u8 ((m : Int) % 256) 128 = ((UInt8.ofNat (128 + m % 128)).toNat : Int) := by
  have h := or_u8 (a := m % 256) (b := 128) (Nat.mod_lt _ (by omega)) (by omega)
  have e : ((m : Int) % 256) = ((m % 256 : Nat) : Int) := by simp
  rw [e]
  refine Eq.trans h ?_
  rw [or128 _ (Nat.mod_lt _ (by omega)), UInt8.toNat_ofNat']
  congr 1
  omega
theorem low8 (m : Nat) (h : m < 128) : (m : Int) = ((UInt8.ofNat m).toNat : Int) := by
  rw [UInt8.toNat_ofNat']; omega
theorem Sl.one (w : World) (x : UInt8) (z : Int) (hz : z = (x.toNat : Int)) (ty : TypeId) : Sl encB (w.alloc (.cells #[.int .u8 z] ty)) (some ⟨w.heap.size, 0, none⟩) 1 1 [x] := by
  subst hz
  exact Sl.new encB w [x] (by simp) _ rfl ty
def Fit (m f : Nat) : Prop := m < 128 ^ (f + 1)
theorem Fit.start {n : Nat} (h : n < 18446744073709551616) : Fit n 9 := Nat.lt_of_lt_of_le h (by decide)
theorem Fit.next {m f : Nat} (h : Fit m f) (hm : ¬ m < 128) : ∃ g, f = g + 1 ∧ Fit (m / 128) g := by
  unfold Fit at *
  cases f with
  | zero => exact absurd (by simpa using h) hm
  | succ g => exact ⟨g, rfl, by rw [Nat.pow_succ] at h; exact Nat.div_lt_of_lt_mul (by omega)⟩
def NumRel (w : World) (n : Nat) (s v : Value) (wr : World) : Prop :=
  ∃ (m f : Nat) (acc : List UInt8), s = .int .u64 m ∧ Fit m f ∧ acc.length + f <= 9 ∧ Below w.heap.size w wr ∧ OwnB wr w.heap.size v acc ∧ numB n = acc ++ numB m
theorem cnumber (n : Nat) (hn : n < 18446744073709551616) (w : World) : Calls Tryz.prog 74 #[.int .u64 n] w (Ret w (IsOwnB w.heap.size (numB n))) := by
  have HN := Lib.hid (Fit.start hn); clear hn
  go_enter Tryz.func74, Tryz.ntmps74
  go_wp2
  go_loopw [0, 3] (fun s v wr => NumRel w n s v wr) (fun s _ _ => (intOf s).toNat)
  case atStart => exact ⟨n, 9, [], rfl, HN.out, by simp, Below.refl _ _, OwnSl.nil_ _ _ _ _, rfl⟩
  case round =>
    obtain ⟨m, f, acc, rfl, hm, hf, hb, ho, hs⟩ := hrel
    by_cases hlt : m < 128
    · have HS := Lib.hid hs; have HO := Lib.hid ho; have HF := Lib.hid hm; clear hs ho hm HN
      have L8 := Lib.hid (low8 m hlt)
      have hge : ¬ (128 <= (m : Int)) := by omega
      go_wp2_with (at_builtin; refine wpList_appS (B := w.heap.size) (l := acc) infB rfl rfl Tryz.underlying22 rfl rfl (HO.out.mono ((Below.refl _ _).alloc (Nat.le_refl _) _)) (Sl.one _ _ _ L8.out _) (by simp; omega) (by have := hb.size; simp; omega) ?_; intro v1 w1 ho1 hg1 _; simp only [Act.put, List.setIfInBounds_toArray, List.set_cons_zero, List.set_cons_succ])
      go_ret
      refine ⟨_, rfl, ((Below.refl _ _).le hb |>.alloc (by have := hb.size; omega) _).grown hg1 (by have := hb.size; simp; omega) (fun q hq => (HO.out.own q hq).1), ?_⟩
      have e := HS.out
      rw [numB_lo hlt] at e
      rw [e]; exact ho1
    · have HS := Lib.hid hs; have HO := Lib.hid ho; have HF := Lib.hid hm; clear hs ho hm HN
      have L8 := Lib.hid (bit128 m)
      have hge : (128 <= (m : Int)) := by omega
      go_wp2_with (at_builtin; refine wpList_appS (B := w.heap.size) (l := acc) infB rfl rfl Tryz.underlying22 rfl rfl (HO.out.mono ((Below.refl _ _).alloc (Nat.le_refl _) _)) (Sl.one _ _ _ L8.out _) (by simp; omega) (by have := hb.size; simp; omega) ?_; intro v1 w1 ho1 hg1 _; simp only [Act.put, List.setIfInBounds_toArray, List.set_cons_zero, List.set_cons_succ])
      obtain ⟨g, rfl, hfit⟩ := Fit.next HF.out hlt
      go_roundw
      case rel => exact ⟨m / 128, g, acc ++ [UInt8.ofNat (128 + m % 128)], by simp, hfit, by simp; omega, ((Below.refl _ _).le hb |>.alloc (by have := hb.size; omega) _).grown hg1 (by have := hb.size; simp; omega) (fun q hq => (HO.out.own q hq).1), ho1, by rw [HS.out, numB_hi hlt]; simp⟩
      case measure => simp [intOf]; omega
end Go.Proofs.YtphhhnjeojdnkaaGreatDoor

/-
  The reference's bytes of a number and of a string; slices.Clone of bytes.
-/
namespace Go.Proofs.YtphhhnjeojdnkaaGreatDoor
open Go.RowKit
theorem OwnB.one (w : World) (x : UInt8) (z : Int) (hz : z = (x.toNat : Int)) : OwnB (w.alloc (.cells #[.int .u8 z] 5)) w.heap.size (.slice (some ⟨w.heap.size, 0, none⟩) 1 1) [x] := by
  subst hz
  exact ⟨rfl, .inr ⟨w.heap.size, 1, _, rfl, Nat.le_refl _, heap_alloc_new _ _, Nat.le_refl _, by unfold maxLen; omega, rfl, rfl⟩⟩
theorem hi8 (n : Nat) : ((128 : Int) + (n : Int) % 128) = ((UInt8.ofNat (128 + n % 128)).toNat : Int) := by
  rw [UInt8.toNat_ofNat']; omega
theorem Fit.u64 {n f : Nat} (h : Fit n f) (hf : f + 1 <= 9) : IntKind.u64.wrap (n : Int) = n := by
  apply wrap_u64
  refine Nat.lt_of_lt_of_le h (Nat.le_trans (Nat.pow_le_pow_right (n := 128) (by omega) hf) (by decide))
theorem rnumber (n f : Nat) : ∀ (w : World), Fit n f -> f <= 9 -> Calls Tryz.prog 56 #[.int .u64 n] w (Ret w (IsOwnB w.heap.size (numB n))) := by
  induction f generalizing n with
  | zero =>
    intro w hf h9
    have hlt : n < 128 := by simpa [Fit] using hf
    have HF := Lib.hid hf; clear hf
    have L8 := Lib.hid (low8 n hlt)
    have LO := Lib.hid (numB_lo hlt)
    go_enter Tryz.func56, Tryz.ntmps56
    go_wp2
    go_ret
    refine ⟨_, rfl, (Below.refl _ _).alloc (Nat.le_refl _) _, ?_⟩
    rw [LO.out]; exact OwnB.one _ _ _ L8.out
  | succ f ih =>
    intro w hf h9
    by_cases hlt : n < 128
    · have HF := Lib.hid hf; clear hf
      have L8 := Lib.hid (low8 n hlt)
      have LO := Lib.hid (numB_lo hlt)
      clear ih
      go_enter Tryz.func56, Tryz.ntmps56
      go_wp2
      go_ret
      refine ⟨_, rfl, (Below.refl _ _).alloc (Nat.le_refl _) _, ?_⟩
      rw [LO.out]; exact OwnB.one _ _ _ L8.out
    · obtain ⟨g, e1, hfit⟩ := Fit.next hf hlt
      obtain rfl : f = g := by omega
      have hz : (((n / 128 : Nat)) : Int) = (n : Int) / 128 := by simp
      have C := ih (n / 128) (w.alloc (.cells #[.int .u8 ((128 : Int) + (n : Int) % 128)] 5)) hfit (by omega)
      rw [<- Fit.u64 hfit h9, hz] at C
      have hl := numB_len (f := f) (n := n / 128) hfit
      have C' := Lib.hid C
      have L8 := Lib.hid (hi8 n)
      have HL := Lib.hid hl
      have HI := Lib.hid (numB_hi hlt)
      clear ih C hf hfit hl hz
      go_enter Tryz.func56, Tryz.ntmps56
      go_wp2_with fail
      refine C'.out.mono ?_
      rintro e w1 ⟨v1, rfl, hb1, ho1⟩
      obtain ⟨A1, c1, rfl, hs1⟩ := OwnSl.sl ho1
      have hone := Lib.hid ((OwnB.one w _ _ L8.out).mono hb1)
      have HS1 := Lib.hid hs1; have HB1 := Lib.hid hb1; have hsz := hb1.size
      clear ho1 hs1 hb1 C'
      go_wp2_with (at_builtin; refine wpList_appS (B := w.heap.size) infB rfl rfl Tryz.underlying22 rfl rfl hone.out HS1.out (by have := HL.out; simp; omega) (by simp at hsz; omega) ?_; intro v2 w2 ho2 hg2 _; simp only [Act.put, List.setIfInBounds_toArray, List.set_cons_zero, List.set_cons_succ])
      go_ret
      refine ⟨_, rfl, (((Below.refl _ _).alloc (Nat.le_refl _) _).trans (HB1.out.mono (by simp))).grown hg2 (by simp at hsz; omega) (fun q hq => (hone.out.own q hq).1), ?_⟩
      rw [HI.out]; exact ho2
theorem rnumber_ (n : Nat) (hn : n < 18446744073709551616) (w : World) : Calls Tryz.prog 56 #[.int .u64 n] w (Ret w (IsOwnB w.heap.size (numB n))) := rnumber n 9 w (Fit.start hn) (Nat.le_refl _)
end Go.Proofs.YtphhhnjeojdnkaaGreatDoor

/-
  Rows of bytes: strings behind them; the reference's bytes of a string; slices.Clone.
-/
namespace Go.Proofs.YtphhhnjeojdnkaaGreatDoor
open Go.RowKit
theorem strCells_eq (l : List UInt8) : Lib.strCells ⟨⟨l⟩⟩ = encB.all l := by
  unfold Lib.strCells Enc.all encB
  simp [List.flatMap_def]
  induction l with
  | nil => rfl
  | cons x l ih => simp [ih]
theorem run_appStr {t : TypeId} (ht : Tryz.prog.underlying t = some (.slice 5)) {w : World} {B : Nat} {v : Value} {l k : List UInt8} (h : OwnB w B v l) (hs : l.length + k.length <= 1000000000) (hB : B <= w.heap.size) :
    ∃ v' w', (∀ ty, (Builtin.append_ #[t, 9] ty #[v, strV k]).run Tryz.prog w = .ok v' w') ∧ OwnB w' B v' (l ++ k) ∧ w.grownBy w' v.ownBlock := by
  obtain ⟨i, h1, h2, h3, h4⟩ := info_parts (P := Tryz.prog) (show (Tryz.prog.info? 5).map (fun i => (i.zero, i.size, i.bytes)) = some (some (.int .u8 0), 1, 1) by kernel_rfl)
  have hsz : (⟨⟨k⟩⟩ : ByteArray).size = k.length := rfl
  have h := fun ty => Lib.run_append_own_string (P := Tryz.prog) (w := w) B t 9 ty 5 i ht Tryz.underlying9 h1 h2 h3 h4 v l.length (encB.all l) h ⟨⟨k⟩⟩ (by rw [hsz]; exact Nat.le_trans hs (by unfold maxLen; omega)) (by rw [hsz]; omega) hB
  obtain ⟨v', w', e1, e2, e3, _⟩ := h 0
  refine ⟨v', w', fun ty => ?_, ?_, e3⟩
  · rw [<- e1]; rfl
  · unfold OwnB OwnSl
    rw [List.length_append, Enc.all_append, <- strCells_eq k]
    rw [hsz] at e2
    exact e2
theorem wpList_appStr {ops : Array Oper} {rest : List Oper} {o : Oper} {a : Act} {Q : Exit -> Act -> World -> Prop} {s x : Operand} {t : TypeId} {w : World} {B : Nat} {v : Value} {l k : List UInt8}
    (hgd : o.guard = none) (ho : o.op = .call { callee := .builtin .append, args := #[s, x], argTypes := #[t, 9] }) (ht : Tryz.prog.underlying t = some (.slice 5)) (hsv : a.eval s = v) (hxv : a.eval x = strV k)
    (h : OwnB w B v l) (hs : l.length + k.length <= 1000000000) (hB : B <= w.heap.size)
    (K : ∀ v' w', OwnB w' B v' (l ++ k) -> w.grownBy w' v.ownBlock -> wpList Tryz.prog ops Q rest (a.put o.dst v') w') : wpList Tryz.prog ops Q (o :: rest) a w := by
  refine wpList_plain hgd fun K' hK => ?_
  obtain ⟨v', w', hr, h2, h3⟩ := run_appStr ht h hs hB
  unfold Oper.wp
  simp [execOp, ho, resolve, invoke, builtin, hsv, hxv, hr, Result.andThen]
  exact hK _ _ (K v' w' h2 h3)
theorem rnumberW (n : Nat) (hn : n < 18446744073709551616) (w : World) : Calls Tryz.prog 56 #[.int .u64 (IntKind.u64.wrap n)] w (Ret w (IsOwnB w.heap.size (numB n))) := by rw [wrap_u64 hn]; exact rnumber_ n hn w
theorem cnumberW (n : Nat) (hn : n < 18446744073709551616) (w : World) : Calls Tryz.prog 74 #[.int .u64 (IntKind.u64.wrap n)] w (Ret w (IsOwnB w.heap.size (numB n))) := by rw [wrap_u64 hn]; exact cnumber n hn w
theorem OwnSl.empty {α : Type} (e : Enc α) (ty : TypeId) (w : World) {B g : Nat} (hB : B <= g) (hh : w.heap[g]? = some (.cells #[] ty (0, 0))) : OwnSl e ty w B (.slice (some ⟨g, 0, none⟩) 0 0) [] :=
  ⟨by simp [Enc.all], .inr ⟨g, 0, #[], rfl, hB, hh, Nat.le_refl _, by unfold maxLen; omega, by simp, by simp [Enc.all]⟩⟩
def strB (l : List UInt8) : List UInt8 := numB l.length ++ l
theorem rstring (l : List UInt8) (hl : l.length <= 100000) (w : World) : Calls Tryz.prog 57 #[strV l] w (Ret w (IsOwnB w.heap.size (strB l))) := by
  have C := Lib.hid (rnumberW l.length (Nat.lt_of_le_of_lt hl (by omega)) w)
  have hn := numB_ten (n := l.length) (Nat.lt_of_le_of_lt hl (by omega))
  have HN := Lib.hid hn; have HL := Lib.hid hl; clear hn hl
  go_enter Tryz.func57, Tryz.ntmps57
  go_wp2_with fail
  refine C.out.mono ?_
  rintro e w1 ⟨v1, rfl, hb1, ho1⟩
  have HO := Lib.hid ho1; have HB1 := Lib.hid hb1; have hsz := hb1.size
  clear ho1 hb1 C
  go_wp2_with (at_builtin; refine wpList_appStr (B := w.heap.size) rfl rfl Tryz.underlying22 rfl rfl HO.out (by have := HL.out; have := HN.out; omega) hsz ?_; intro v2 w2 ho2 hg2; simp only [Act.put, List.setIfInBounds_toArray, List.set_cons_zero, List.set_cons_succ])
  go_ret
  exact ⟨_, rfl, HB1.out.grown hg2 hsz (fun q hq => (HO.out.own q hq).1), ho2⟩
theorem bclone (A : Option Addr) (n c : Nat) (l : List UInt8) (w : World) (h : Sl encB w A n c l) (hs : n <= 1000000) : Calls Tryz.prog 77 #[.slice A n c] w (Ret w (IsOwnB w.heap.size l)) := by
  have hq := fun w a n c => Lib.run_eql_slice_nil (P := Tryz.prog) w 22 5 a n c 0 0 Tryz.underlying22
  cases A with
  | none =>
    have hc := h.nil rfl
    have hn : n = 0 := by have := h.cap; omega
    subst hc; subst hn
    have hl : l = [] := List.eq_nil_of_length_eq_zero h.len.symm
    subst hl
    clear h
    go_enter Tryz.func77, Tryz.ntmps77
    go_wp2
    go_ret
    exact ⟨_, rfl, Below.refl _ _, OwnSl.nil_ _ _ _ _⟩
  | some a =>
    have H := Lib.hid h; clear h
    go_enter Tryz.func77, Tryz.ntmps77
    go_wp2_with (at_builtin; refine wpList_appS (B := w.heap.size) (v := .slice (some ⟨w.heap.size, 0, none⟩) 0 0) (l := []) infB rfl rfl Tryz.underlying22 rfl rfl (OwnSl.empty _ _ _ (Nat.le_refl _) (heap_alloc_new w _)) (H.out.mono (by go_grown)) (by have := H.out.len; simp; omega) (by simp) ?_; intro v' w' hr' hg' _; simp only [Act.put, List.setIfInBounds_toArray, List.set_cons_zero, List.set_cons_succ])
    go_ret
    exact ⟨_, rfl, (Below.alloc (Below.refl _ _) (Nat.le_refl _) _).grown hg' (by simp) (fun k hk => by simp [Value.ownBlock] at hk; omega), hr'⟩
end Go.Proofs.YtphhhnjeojdnkaaGreatDoor
