/-
  From a reckoning to a contract, for calls that return true; the memo of one function, of two.
-/
import Derived.Test.YtpjpdohdceabpaaGreatDoorXAC
import Derived.Handed
import Derived.Lib.LaidU8
import Derived.Shelf.SlMaps.Clone
set_option linter.unusedSectionVars false
set_option linter.unusedVariables false
set_option linter.unusedSimpArgs false
set_option maxRecDepth 100000
set_option maxHeartbeats 8000000
namespace Go.Proofs.YtpjpdohdceabpaaGreatDoor
open Go.RowKit
namespace V
instance : Low 400 := ⟨Nat.le_refl _⟩
def isTrue (x : R Res) : Bool := match x with
  | .ok r => (match r.v with | .bool true => r.wr.isEmpty | _ => false)
  | .no _ => false
theorem isTrue_ok {x : R Res} (h : isTrue x = true) : ∃ r, x = .ok r ∧ r.v = .bool true ∧ r.wr = [] := by
  cases x with
  | no s => cases h
  | ok r =>
    obtain ⟨v, H, n, wr⟩ := r
    cases v <;> try (cases h; done)
    rename_i b
    cases b
    · cases h
    · exact ⟨_, rfl, rfl, List.isEmpty_iff.1 h⟩
end V
end Go.Proofs.YtpjpdohdceabpaaGreatDoor

/-
  The reckoner with a table: calls that were reckoned beforehand, each in a theorem of its own, at their arguments and their heap. A call of the table is looked up by its function and by the number of the next block; its arguments and its heap are held against the table's.
-/
namespace Go.Proofs.YtpjpdohdceabpaaGreatDoor
open Go.RowKit
namespace V
set_option linter.unusedVariables false
noncomputable section
def sameI (a b : Int) : Bool := match a with
  | .ofNat x => (match b with | .ofNat y => Nat.beq x y | _ => false)
  | .negSucc x => (match b with | .negSucc y => Nat.beq x y | _ => false)
def sameS (a b : Addr) : Bool := Nat.beq a.block b.block && Nat.beq a.off b.off && a.spot.isNone && b.spot.isNone
def sameL {α : Type} (f : α -> α -> Bool) (x : List α) : List α -> Bool :=
  List.rec (motive := fun _ => List α -> Bool) (fun y => List.rec (motive := fun _ => Bool) true (fun _ _ _ => false) y) (fun a _ ih y => List.rec (motive := fun _ => Bool) false (fun b t _ => Bool.rec (motive := fun _ => Bool) false (ih t) (f a b)) y) x
def sameU (a b : UInt8) : Bool := Nat.beq a.toNat b.toNat
def sameV : Nat -> Value -> Value -> Bool
  | 0, _, _ => false
  | d + 1, u, v => match u with
    | .int k a => (match v with | .int k' b => kEq k k' && sameI a b | _ => false)
    | .bool a => (match v with | .bool b => (match a with | true => b | false => !b) | _ => false)
    | .string ⟨⟨a⟩⟩ => (match v with | .string ⟨⟨b⟩⟩ => sameL sameU a b | _ => false)
    | .pointer none => (match v with | .pointer none => true | _ => false)
    | .pointer (some a) => (match v with | .pointer (some b) => sameS a b | _ => false)
    | .slice none n c => (match v with | .slice none n' c' => Nat.beq n n' && Nat.beq c c' | _ => false)
    | .slice (some a) n c => (match v with | .slice (some b) n' c' => sameS a b && Nat.beq n n' && Nat.beq c c' | _ => false)
    | .map none => (match v with | .map none => true | _ => false)
    | .map (some a) => (match v with | .map (some b) => Nat.beq a b | _ => false)
    | .nilFunc => (match v with | .nilFunc => true | _ => false)
    | .nilIface => (match v with | .nilIface => true | _ => false)
    | .func fn ⟨f⟩ ⟨c⟩ => (match v with | .func fn' ⟨f'⟩ ⟨c'⟩ => (match fn with | .func g => (match fn' with | .func g' => Nat.beq g g' | _ => false) | _ => false) && sameL (sameV d) f f' && sameL (sameV d) c c' | _ => false)
    | .agg ⟨l⟩ => (match v with | .agg ⟨l'⟩ => sameL (sameV d) l l' | _ => false)
    | .tuple ⟨l⟩ => (match v with | .tuple ⟨l'⟩ => sameL (sameV d) l l' | _ => false)
    | _ => false
def sameB (a b : Bool) : Bool := match a with | true => b | false => !b
def sameM (e f : MapEntry) : Bool := sameV 6 e.key f.key && sameV 6 e.val f.val && Nat.beq e.born f.born
def sameO (o p : AO) : Bool := match o with
  | .cells cs e es x => (match p with | .cells cs' e' es' x' => sameL (sameV 6) cs cs' && Nat.beq e e' && Nat.beq es es' && sameB x x' | _ => false)
  | .map es c => (match p with | .map es' c' => sameL sameM es es' && Nat.beq c c' | _ => false)
  | .str ⟨⟨s⟩⟩ q => (match p with | .str ⟨⟨s'⟩⟩ q' => sameL sameU s s' && Nat.beq q q' | _ => false)
  | .unk => (match p with | .unk => true | _ => false)
  | _ => false
def sameH (H K : AH) : Bool := sameL (fun p q => Nat.beq p.1 q.1 && sameO p.2 q.2) H K
def hasH (G H : AH) : Bool := List.rec (motive := fun _ => Bool) true (fun p _ ih => R.rec (motive := fun _ => Bool) (fun o => Bool.rec (motive := fun _ => Bool) false ih (sameO p.2 o)) (fun _ => false) (get H p.1)) G
def closedH (B : Nat) (H : AH) : Bool := H.all fun p => Nat.ble (p.1 + 1) B && match p.2 with | .cells cs _ _ x => cs.all (below B deep) && !x | _ => false
structure ME where
  r : Res
  G : AH
abbrev MemoG := FuncId -> Option ME
def noMemoG : MemoG := fun _ => none
structure TE where
  args : List Value
  H : AH
  r : Res
abbrev Tab := FuncId -> Nat -> Option TE
def noTab : Tab := fun _ _ => none
def addT (g : FuncId) (m : Nat) (e : TE) (tab : Tab) : Tab := fun f n => Bool.rec (motive := fun _ => Option TE) (tab f n) (Bool.rec (motive := fun _ => Option TE) (tab f n) (some e) (Nat.beq f g)) (Nat.beq n m)
end
theorem sameI_ok {a b : Int} (h : sameI a b = true) : a = b := by
  unfold sameI at h
  split at h <;> split at h <;> first
    | (rw [Nat.eq_of_beq_eq_true h]; done)
    | cases h
theorem sameS_ok {a b : Addr} (h : sameS a b = true) : a = b := by
  unfold sameS at h
  rw [Bool.and_eq_true, Bool.and_eq_true, Bool.and_eq_true] at h
  obtain ⟨⟨⟨h1, h2⟩, h3⟩, h4⟩ := h
  obtain ⟨x, y, z⟩ := a
  obtain ⟨x', y', z'⟩ := b
  have h1 := Nat.eq_of_beq_eq_true h1
  have h2 := Nat.eq_of_beq_eq_true h2
  rw [Option.isNone_iff_eq_none] at h3 h4
  simp only at h1 h2 h3 h4
  rw [h1, h2, h3, h4]
theorem sameL_ok {α : Type} {f : α -> α -> Bool} : ∀ (x y : List α), (∀ a ∈ x, ∀ b, f a b = true -> a = b) -> sameL f x y = true -> x = y
  | [], [], _, _ => rfl
  | [], b :: y, _, h => by cases h
  | a :: x, [], _, h => by cases h
  | a :: x, b :: y, hf, h => by
    have h' : Bool.rec (motive := fun _ => Bool) false (sameL f x y) (f a b) = true := h
    cases hab : f a b with
    | false => rw [hab] at h'; cases h'
    | true =>
      rw [hab] at h'
      rw [hf a List.mem_cons_self b hab, sameL_ok x y (fun a ha => hf a (List.mem_cons_of_mem _ ha)) h']
theorem sameU_ok {a b : UInt8} (h : sameU a b = true) : a = b := UInt8.toNat_inj.1 (Nat.eq_of_beq_eq_true h)
theorem kEq_ok {a b : IntKind} (h : kEq a b = true) : a = b := by
  cases a <;> cases b <;> first | rfl | cases h
theorem sameV_ok : ∀ (d : Nat) (u v : Value), sameV d u v = true -> u = v
  | 0, u, v, h => by cases h
  | d + 1, u, v, h => by
    have ih : ∀ (x y : List Value), sameL (sameV d) x y = true -> x = y := fun x y => sameL_ok x y fun a _ b => sameV_ok d a b
    unfold sameV at h
    split at h
    · split at h
      · rw [Bool.and_eq_true] at h; rw [kEq_ok h.1, sameI_ok h.2]
      · cases h
    · split at h
      · rename_i a _ b
        cases a <;> cases b <;> first | rfl | cases h
      · cases h
    · split at h
      · rename_i a _ b
        rw [sameL_ok a b (fun x _ y hxy => sameU_ok hxy) h]
      · cases h
    · split at h
      · rfl
      · cases h
    · split at h
      · rw [sameS_ok h]
      · cases h
    · split at h
      · rw [Bool.and_eq_true] at h; rw [Nat.eq_of_beq_eq_true h.1, Nat.eq_of_beq_eq_true h.2]
      · cases h
    · split at h
      · rw [Bool.and_eq_true, Bool.and_eq_true] at h; rw [sameS_ok h.1.1, Nat.eq_of_beq_eq_true h.1.2, Nat.eq_of_beq_eq_true h.2]
      · cases h
    · split at h
      · rfl
      · cases h
    · split at h
      · rw [Nat.eq_of_beq_eq_true h]
      · cases h
    · split at h
      · rfl
      · cases h
    · split at h
      · rfl
      · cases h
    · split at h
      · rw [Bool.and_eq_true, Bool.and_eq_true] at h
        obtain ⟨⟨h1, h2⟩, h3⟩ := h
        split at h1
        · split at h1
          · rw [Nat.eq_of_beq_eq_true h1, ih _ _ h2, ih _ _ h3]
          · cases h1
        · cases h1
      · cases h
    · split at h
      · rw [ih _ _ h]
      · cases h
    · split at h
      · rw [ih _ _ h]
      · cases h
    · cases h
theorem sameB_ok {a b : Bool} (h : sameB a b = true) : a = b := by cases a <;> cases b <;> first | rfl | cases h
theorem sameM_ok {e f : MapEntry} (h : sameM e f = true) : e = f := by
  unfold sameM at h
  rw [Bool.and_eq_true, Bool.and_eq_true] at h
  obtain ⟨a, b, c⟩ := e
  obtain ⟨a', b', c'⟩ := f
  have h1 := sameV_ok _ _ _ h.1.1
  have h2 := sameV_ok _ _ _ h.1.2
  have h3 := Nat.eq_of_beq_eq_true h.2
  simp only at h1 h2 h3
  rw [h1, h2, h3]
theorem sameO_ok {o p : AO} (h : sameO o p = true) : o = p := by
  unfold sameO at h
  split at h
  · split at h
    · rw [Bool.and_eq_true, Bool.and_eq_true, Bool.and_eq_true] at h
      rw [sameL_ok _ _ (fun a _ b => sameV_ok _ a b) h.1.1.1, Nat.eq_of_beq_eq_true h.1.1.2, Nat.eq_of_beq_eq_true h.1.2, sameB_ok h.2]
    · cases h
  · split at h
    · rw [Bool.and_eq_true] at h
      rw [sameL_ok _ _ (fun a _ b => sameM_ok) h.1, Nat.eq_of_beq_eq_true h.2]
    · cases h
  · split at h
    · rw [Bool.and_eq_true] at h
      rw [sameL_ok _ _ (fun a _ b => sameU_ok) h.1, Nat.eq_of_beq_eq_true h.2]
    · cases h
  · split at h
    · rfl
    · cases h
  · cases h
theorem sameH_ok {H K : AH} (h : sameH H K = true) : H = K :=
  sameL_ok H K (fun a _ b hab => by
    rw [Bool.and_eq_true] at hab
    obtain ⟨i, o⟩ := a
    obtain ⟨j, p⟩ := b
    have h1 := Nat.eq_of_beq_eq_true hab.1
    have h2 := sameO_ok hab.2
    simp only at h1 h2
    rw [h1, h2]) h
section
variable {P : Program} {B : Nat} [Low B]
def TabOK (P : Program) (B : Nat) (tab : Tab) : Prop := ∀ f n e, tab f n = some e -> ∃ call : CallE, CallOK P B call ∧ call f e.args e.H n = .ok e.r
theorem noTab_ok : TabOK P B noTab := fun f n e h => by cases h
theorem addT_ok {g : FuncId} {m : Nat} {e : TE} {tab : Tab} (ht : TabOK P B tab) {call : CallE} (hc : CallOK P B call) (hr : call g e.args e.H m = .ok e.r) : TabOK P B (addT g m e tab) := fun f n x h => by
  unfold addT at h
  cases h1 : Nat.beq n m with
  | false => rw [h1] at h; exact ht f n x h
  | true =>
    rw [h1] at h
    cases h2 : Nat.beq f g with
    | false => rw [h2] at h; exact ht f n x h
    | true =>
      rw [h2] at h
      cases h
      rw [Nat.eq_of_beq_eq_true h1, Nat.eq_of_beq_eq_true h2]
      exact ⟨call, hc, hr⟩
def MemoOKG (P : Program) (B : Nat) (f : FuncId) (m : ME) : Prop :=
  closedH B m.G = true ∧ (∀ w, (callFunc f #[]).run P w = .ok (.enter f #[]) w) ∧ ∀ w, Sat B still (lk m.G) w -> Calls P f #[] w fun e w' => ∃ v, e = .returned v ∧ Did B still [] B w m.r v w'
def MemosG (P : Program) (B : Nat) (mm : MemoG) : Prop := ∀ f m, mm f = some m -> MemoOKG P B f m
theorem noMemosG : MemosG P B noMemoG := fun f m h => by cases h
theorem hasH_ok : ∀ {G H : AH}, hasH G H = true -> ∀ p ∈ G, get H p.1 = .ok p.2
  | [], H, _, p, hp => by cases hp
  | q :: G, H, h, p, hp => by
    have h' : R.rec (motive := fun _ => Bool) (fun o => Bool.rec (motive := fun _ => Bool) false (hasH G H) (sameO q.2 o)) (fun _ => false) (get H q.1) = true := h
    cases hg : get H q.1 with
    | no s => rw [hg] at h'; cases h'
    | ok o =>
      rw [hg] at h'
      have h'' : Bool.rec (motive := fun _ => Bool) false (hasH G H) (sameO q.2 o) = true := h'
      cases ho : sameO q.2 o with
      | false => rw [ho] at h''; cases h''
      | true =>
        rw [ho] at h''
        rcases List.mem_cons.1 hp with rfl | hp
        · rw [hg, sameO_ok ho]
        · exact hasH_ok h'' p hp
theorem get_in : ∀ {H : AH} {i : Nat} {o : AO}, get H i = .ok o -> (i, o) ∈ H
  | [], i, o, h => by cases h
  | (j, p) :: t, i, o, h => by
    simp only [get] at h
    split at h
    · rename_i hj
      cases h
      rw [Nat.eq_of_beq_eq_true hj]
      exact List.mem_cons_self
    · exact List.mem_cons_of_mem _ (get_in h)
theorem closedH_ok {G : AH} (hc : closedH B G = true) {i : Nat} {o : AO} (h : get G i = .ok o) : ∃ cs t es, o = .cells cs t es false ∧ i < B ∧ ∀ v ∈ cs, below B deep v = true := by
  unfold closedH at hc
  rw [List.all_eq_true] at hc
  have := hc _ (get_in h)
  rw [Bool.and_eq_true, Nat.ble_eq] at this
  obtain ⟨h1, h2⟩ := this
  cases o with
  | cells cs t es x =>
    simp only [Bool.and_eq_true, List.all_eq_true] at h2
    obtain ⟨h3, h4⟩ := h2
    cases x
    · exact ⟨cs, t, es, rfl, h1, h3⟩
    · cases h4
  | _ => cases h2
theorem sat_part {G H : AH} {ρ : Lies} {w : World} (hc : closedH B G = true) (hh : hasH G H = true) (hs : Sat B ρ (lk H) w) : Sat B still (lk G) w := by
  refine ⟨fun _ _ => rfl, fun i o ho => ?_, fun i j o p _ _ e => e⟩
  have ho' := lk_ok.1 ho
  obtain ⟨cs, t, es, rfl, h1, h2⟩ := closedH_ok hc ho'
  have hin := hs.at_ i _ (lk_ok.2 (hasH_ok hh _ (get_in ho')))
  have hfix := hs.fix i h1
  obtain ⟨c, fr, g1, g2, g3, g4, g5⟩ := hin
  rw [hfix] at g1 g2 g3
  refine ⟨c, fr, g1, fun k v hk => ?_, g3, fun _ => rfl, g5⟩
  have hb := h2 v (List.mem_of_getElem? hk)
  rw [ren_closed (ρ := still) (fun _ _ => rfl) hb, <- ren_closed hs.fix hb]
  exact g2 k v hk
end
end V
end Go.Proofs.YtpjpdohdceabpaaGreatDoor

/-
  Package variables that a row lists, with what they hold: the reckoner's heap at the start; a row's lift with the world's shape.
-/
namespace Go.Proofs.YtpjpdohdceabpaaGreatDoor
open Go.RowKit
theorem returnsIn_laid {H : Type} {enc : TypeId × Value -> H} {a : Assume} {C : Checked} {os : Os} {f : FuncId} {fn : Func} {s : ChangeSpec} {conds : List PathCond} {apart fresh handsOn again : Bool} {X : World -> Array Value -> Prop}
    (hX : ∀ (w w' : World) (args : Array Value), w.heap = w'.heap -> X w args -> X w' args)
    (own : ownKnob C.prog.godebug = none) (started : os.Started) (noInit : C.prog.inits.idxOf? f = none) (hfn : C.prog.funcs[f]? = some fn)
    (witness : ∃ (w : World) (tape : Tape) (i : Input), w.os = os ∧ (w.forCall tape i).Shaped C.prog ∧ i.vars = [] ∧ Input.okWide C.prog (w.forCall tape i) .any w.heap.size f i ∧
      ((s.pre enc C.prog fn conds apart (w.forCall tape i).memory i.args ∧ X (w.forCall tape i).memory i.args) ∧ sizedMet enc C.prog fn (OpenSpec.ofChange s) apart (w.forCall tape i).memory i.args) ∧ a.holds C.prog (lone (Frame.enter C.prog f i.args .normal) [] (w.forCall tape i)))
    (contract : ∀ (W : World) (base : Nat) (args : Array Value) (ds gs : List (DataW H)) (before : List MemPlace),
      (∀ (j : Nat) t v, fn.params[j]? = some t -> args[j]? = some v -> Value.okWide C.prog W .any base t v) ->
      DataW.Whole enc C.prog fn.params.toList s.vars apart W args.toList ds gs before -> X W args -> W.ShapedOpen C.prog ->
      Calls C.prog f args W fun e W' => ∃ v, e = .returned v ∧ s.post enc C.prog fn apart fresh handsOn again W args v W') :
    ReturnsInHanded a C os f .any (fun w args => (s.pre enc C.prog fn conds apart w args ∧ X w args) ∧ sizedMet enc C.prog fn (OpenSpec.ofChange s) apart w args) (s.post enc C.prog fn apart fresh handsOn again) := by
  refine returnsInHanded_of_calls own started noInit witness ?_
  intro w tape i _ hsh _ hok hpre _
  obtain ⟨_, _, _, fn', hfn', _, _, _, _, hval⟩ := hok
  obtain rfl : fn' = fn := Option.some.inj (hfn'.symm.trans hfn)
  obtain ⟨⟨⟨ds, gs, before, hw, _⟩, hx⟩, _⟩ := hpre
  refine (contract (w.forCall tape i) w.heap.size i.args ds gs before hval (DataW.Whole.of_heap (w' := w.forCall tape i) (by rfl) hw) (hX _ _ _ (by rfl) hx) hsh).mono fun e W' ⟨v, he, hp⟩ => ?_
  subst he
  exact ChangeSpec.post_blind hp
theorem laid_cells {P : Program} {w : World} {l : List (String × DataW Unit)} {n : String} {d : DataW Unit} {g t ty : Nat} (h : laidMet P l w) (hm : (n, d) ∈ l) (hg : P.globalNamed n = some g) (ht : (P.globals[g]?).map (·.type) = some t)
    (hs : w.ShapedOpen P) (hr : (((begin P (fun _ _ => 0) default).world.heap[g]?).bind Obj.row?).map (·.2) = some ty) (hlt : g < P.globals.size) :
    ∃ cs fuel p, w.heap[g]? = some (.cells cs ty) ∧ DataW.trod (fun _ => ()) P w 0 (fun _ => true) false fuel t cs.toList = some (d, p) := by
  obtain ⟨g', t', cs, fuel, p, h1, h2, h3, h4⟩ := Lib.laidMet.reads h hm
  obtain rfl := Option.some.inj (hg.symm.trans h1)
  obtain rfl := Option.some.inj (ht.symm.trans h2)
  obtain ⟨⟨z, ty'⟩, hz, rfl⟩ := Option.map_eq_some_iff.1 hr
  obtain ⟨cs', hc, _⟩ := hs.1 g z ty' hlt hz
  unfold World.var? at h3
  rw [hg] at h3
  simp only [Option.bind_some, hc] at h3
  obtain rfl := Option.some.inj h3
  exact ⟨_, fuel, p, hc, h4⟩
theorem strs_of_array {H : Type} {enc : TypeId × Value -> H} {P : Program} {w : World} {base : Nat} {sp : Nat -> Bool} {held : Bool} {fuel : Nat} {t e : TypeId} {n : Nat} {cs : List Value} {ss : List (List UInt8)} {p : List MemPlace}
    (ht : P.underlying t = some (.array n e)) (he : P.underlying e = some .string) (hc : P.cellsOf e = 1) (hn : P.cellsOf t = n) (hs : ss.length = n)
    (h : DataW.trod enc P w base sp held fuel t cs = some (.agg (ss.map fun s => .lit (.string s)), p)) : cs = ss.map fun s => Value.string ⟨⟨s⟩⟩ := by
  obtain ⟨xs, m, _, ex, hl, _, _⟩ := DataW.trod_array ht h
  apply List.ext_getElem?
  intro i
  by_cases hi : i < n
  · obtain ⟨fuel', d, q, h1, h2⟩ := Lib.array_elem ht h i hi
    rw [hc, Nat.mul_one] at h2
    obtain ⟨s, h3, h4, _⟩ := DataW.trod_string he h2
    simp only [Prod.mk.injEq] at h4
    have h5 : cs[i]? = some (.string s) := by
      have := congrArg (·[0]?) h3
      simpa [List.getElem?_take, List.getElem?_drop] using this
    rw [List.getElem?_map, Option.map_eq_some_iff] at h1
    obtain ⟨s', h6, h7⟩ := h1
    rw [<- h7] at h4
    have h8 : s.data.toList = s' := by simpa using h4.1.symm
    rw [h5, List.getElem?_map, h6, <- h8]
    rfl
  · rw [List.getElem?_eq_none (by omega), List.getElem?_eq_none (by simp; omega)]
theorem ints_of_array {H : Type} {enc : TypeId × Value -> H} {P : Program} {w : World} {base : Nat} {sp : Nat -> Bool} {held : Bool} {fuel : Nat} {t e : TypeId} {n : Nat} {k : IntKind} {cs : List Value} {zs : List Int} {p : List MemPlace}
    (ht : P.underlying t = some (.array n e)) (he : P.underlying e = some (.int k)) (hc : P.cellsOf e = 1) (hn : P.cellsOf t = n) (hs : zs.length = n)
    (h : DataW.trod enc P w base sp held fuel t cs = some (.agg (zs.map fun z => .lit (.int k z)), p)) : cs = zs.map fun z => Value.int k z := by
  obtain ⟨xs, m, _, ex, hl, _, _⟩ := DataW.trod_array ht h
  apply List.ext_getElem?
  intro i
  by_cases hi : i < n
  · obtain ⟨fuel', d, q, h1, h2⟩ := Lib.array_elem ht h i hi
    rw [hc, Nat.mul_one] at h2
    obtain ⟨z, h3, h4, _⟩ := DataW.trod_int he h2
    simp only [Prod.mk.injEq] at h4
    have h5 : cs[i]? = some (.int k z) := by
      have := congrArg (·[0]?) h3
      simpa [List.getElem?_take, List.getElem?_drop] using this
    rw [List.getElem?_map, Option.map_eq_some_iff] at h1
    obtain ⟨z', h6, h7⟩ := h1
    rw [<- h7] at h4
    have h8 : z = z' := by simpa using h4.1.symm
    rw [h5, List.getElem?_map, h6, <- h8]
    rfl
  · rw [List.getElem?_eq_none (by omega), List.getElem?_eq_none (by simp; omega)]
namespace V
section
variable {P : Program} {B : Nat} [Low B]
theorem sat_globals {H : AH} {w : World} (hc : closedH B H = true) (h : ∀ i cs t es x, (i, AO.cells cs t es x) ∈ H -> w.heap[i]? = some (.cells cs.toArray t)) : Sat B still (lk H) w ∧ WF B (lk H) B := by
  have each : ∀ i o, lk H i = some o -> ∃ cs t es, o = .cells cs t es false ∧ i < B ∧ (∀ v ∈ cs, below B deep v = true) ∧ w.heap[i]? = some (.cells cs.toArray t) := fun i o ho => by
    obtain ⟨cs, t, es, rfl, h1, h2⟩ := closedH_ok hc (lk_ok.1 ho)
    exact ⟨cs, t, es, rfl, h1, h2, h _ _ _ _ _ (get_in (lk_ok.1 ho))⟩
  refine ⟨⟨fun _ _ => rfl, fun i o ho => ?_, fun i j o p _ _ e => e⟩, ⟨Nat.le_refl _, fun i o ho => ?_⟩⟩
  · obtain ⟨cs, t, es, rfl, h1, h2, h3⟩ := each i o ho
    refine ⟨cs.toArray, (0, 0), h3, fun k v hk => ?_, by simp [still], fun _ => rfl, .inl rfl⟩
    rw [ren_closed (ρ := still) (fun _ _ => rfl) (h2 v (List.mem_of_getElem? hk))]
    simpa [still] using hk
  · obtain ⟨cs, t, es, rfl, h1, h2, h3⟩ := each i o ho
    exact ⟨h1, h2⟩
theorem reckonH {call : CallE} (hc : CallOK P B call) (hok : P.funcs.toList.all okFn = true) {f : Nat} {args : List Value} {H : AH} {r : Res} (h : call f args H B = .ok r) (hargs : args.all (below B deep) = true) (hbody : ((P.funcs[f]?).bind Func.body).isSome = true) {w : World}
    (hs : Sat B still (lk H) w ∧ WF B (lk H) B) : Calls P f ⟨args⟩ w fun e w' => ∃ v, e = .returned v ∧ Did B still H B w r v w' := by
  have hren : args.map (ren still) = args := closedL (B := B) (fun _ _ => rfl) hargs
  rcases hc f args H B r h still w hs.1 hs.2 (by simpa using hargs) with ⟨_, h2⟩ | ⟨v, w', h1, h2⟩
  · rw [hren] at h2; exact h2
  · rw [hren, enter_of hok hbody] at h1; cases h1
theorem trueH {call : CallE} (hc : CallOK P B call) (hok : P.funcs.toList.all okFn = true) {f : FuncId} {args : List Value} {H : AH} (h : isTrue (call f args H B) = true) (hargs : args.all (below B deep) = true)
    (hbody : ((P.funcs[f]?).bind Func.body).isSome = true) {w : World} (hs : Sat B still (lk H) w ∧ WF B (lk H) B) : Calls P f ⟨args⟩ w (Ret w (IsB true)) := by
  obtain ⟨r, hr, hv, hwr⟩ := isTrue_ok h
  refine Calls.mono (reckonH hc hok hr hargs hbody hs) fun e w' he => ?_
  obtain ⟨v, rfl, ρ', rfl, k1, k2, k3⟩ := he
  rw [hwr] at k2
  refine ⟨_, rfl, ⟨k2.os, k2.tape, k2.output, k2.size, fun b hb => k2.frame b hb (fun i hi => by cases hi)⟩, ?_⟩
  rw [hv]
  exact ren_bool _ _
end
end V
end Go.Proofs.YtpjpdohdceabpaaGreatDoor

/-
  The reckoner with pure calls: calls whose value is known whatever the world (a theorem for each), though they look at a package variable of whose number nothing is known.
-/
namespace Go.Proofs.YtpjpdohdceabpaaGreatDoor
open Go.RowKit
namespace V
noncomputable section
abbrev Pure := FuncId -> List Value -> Option (Value × Nat)
def noPure : Pure := fun _ _ => none
def isUnk (H : AH) (i : Nat) : Bool := R.rec (motive := fun _ => Bool) (fun o => match o with | .unk => true | _ => false) (fun _ => false) (get H i)
end
section
variable {P : Program} {B : Nat} [Low B]
theorem isUnk_ok {H : AH} {i : Nat} (h : isUnk H i = true) : get H i = .ok .unk := by
  unfold isUnk at h
  cases hg : get H i with
  | no s => rw [hg] at h; cases h
  | ok o =>
    rw [hg] at h
    cases o <;> first | rfl | cases h
structure PureFact (P : Program) (B : Nat) (f : FuncId) (args : List Value) (v : Value) (i : Nat) : Prop where
  low : i < B
  closed : args.all (below B deep) = true
  value : below B deep v = true
  enters : ∀ w, (callFunc f args.toArray).run P w = .ok (.enter f args.toArray) w
  says : ∀ w k e fr, w.heap[i]? = some (.cells #[.int .i64 k] e fr) -> Calls P f args.toArray w (Ret w (Is v))
def PureOK (P : Program) (B : Nat) (pt : Pure) : Prop := ∀ f args v i, pt f args = some (v, i) -> PureFact P B f args v i
theorem noPure_ok : PureOK P B noPure := fun _ _ _ _ h => by cases h
theorem sat_below {ρ : Lies} {H : AH} {w w' : World} (hs : Sat B ρ (lk H) w) (hb : Below w.heap.size w w') : Sat B ρ (lk H) w' := by
  refine ⟨hs.fix, fun i o ho => ?_, hs.inj⟩
  have ha := hs.at_ i o ho
  have lt : (ρ i).blk < w.heap.size := by
    cases o with
    | cells cs e es x => obtain ⟨c, fr, h1, _⟩ := ha; exact (Array.getElem?_eq_some_iff.1 h1).1
    | map es c => exact (Array.getElem?_eq_some_iff.1 ha.2).1
    | str s p => exact (Array.getElem?_eq_some_iff.1 ha.2).1
    | mit m s x l => exact (Array.getElem?_eq_some_iff.1 ha.2).1
    | unk => obtain ⟨k, e, fr, h1⟩ := ha; exact (Array.getElem?_eq_some_iff.1 h1).1
  rw [hb.block _ lt]
  exact ha
end
end V
end Go.Proofs.YtpjpdohdceabpaaGreatDoor

/-
  The reckoner with given calls: functions that are known by what is asked of a reckoner of calls; maps.Clone is one.
-/
namespace Go.Proofs.YtpjpdohdceabpaaGreatDoor
open Go.RowKit
namespace V
noncomputable section
abbrev Prims := FuncId -> Option CallE
def noPrims : Prims := fun _ => none
def addC (g : FuncId) (c : CallE) (pr : Prims) : Prims := fun f => Bool.rec (motive := fun _ => Option CallE) (pr f) (some c) (Nat.beq f g)
def cloneE (g : FuncId) : CallE := fun f args H n => R.if_ "clone" (Nat.beq f g) (match args with
  | [.map (some m)] => (mapOf H m).bind fun q => newO H n (.map q.1 q.2) fun i => .ok (.map (some i))
  | _ => .no ["clone- a map"])
def callR (P : Program) (B : Nat) (mm : MemoG) (pt : Pure) (pr : Prims) (tab : Tab) (lf : Nat) (d : Nat) : CallE :=
  Nat.rec (motive := fun _ => CallE) (fun _ _ _ _ => .no ["calls- too deep"]) (fun _ ih f args H n => Option.rec (motive := fun _ => R Res) (Option.rec (motive := fun _ => R Res) (Option.rec (motive := fun _ => R Res) (Option.rec (motive := fun _ => R Res) (bodyF P B ih lf f args H n) (fun c => c f args H n) (pr f))
    (fun q => Bool.rec (motive := fun _ => R Res) (.no ["pure"]) (.ok ⟨q.1, H, n, []⟩) (isUnk H q.2)) (pt f args))
    (fun e => Bool.rec (motive := fun _ => R Res) (.no ["table"]) (.ok e.r) (sameL (sameV 6) e.args args && sameH e.H H)) (tab f n)) (fun m => Bool.rec (motive := fun _ => R Res) (.no ["memo- variables"]) (memoE B m.r args H n) (hasH m.G H)) (mm f)) d
end
theorem callR_succ {P : Program} {B : Nat} {mm : MemoG} {pt : Pure} {pr : Prims} {tab : Tab} {lf d : Nat} {f : FuncId} {args : List Value} {H : AH} {n : Nat} : callR P B mm pt pr tab lf (d + 1) f args H n =
    (match mm f with
    | some m => (match hasH m.G H with | true => memoE B m.r args H n | false => .no ["memo- variables"])
    | none => match tab f n with
      | some e => (match (sameL (sameV 6) e.args args && sameH e.H H) with | true => .ok e.r | false => .no ["table"])
      | none => match pt f args with
        | some q => (match isUnk H q.2 with | true => .ok ⟨q.1, H, n, []⟩ | false => .no ["pure"])
        | none => match pr f with
          | some c => c f args H n
          | none => bodyF P B (callR P B mm pt pr tab lf d) lf f args H n) := by
  show Option.rec (motive := fun _ => R Res) _ _ (mm f) = _
  cases mm f with
  | some m => show Bool.rec (motive := fun _ => R Res) _ _ (hasH m.G H) = (match hasH m.G H with | true => memoE B m.r args H n | false => .no ["memo- variables"]); cases hasH m.G H <;> rfl
  | none =>
    show Option.rec (motive := fun _ => R Res) _ _ (tab f n) = _
    cases tab f n with
    | some e => show Bool.rec (motive := fun _ => R Res) _ _ (sameL (sameV 6) e.args args && sameH e.H H) = (match (sameL (sameV 6) e.args args && sameH e.H H) with | true => .ok e.r | false => .no ["table"]); cases (sameL (sameV 6) e.args args && sameH e.H H) <;> rfl
    | none =>
      show Option.rec (motive := fun _ => R Res) _ _ (pt f args) = _
      cases pt f args with
      | some q => show Bool.rec (motive := fun _ => R Res) _ _ (isUnk H q.2) = (match isUnk H q.2 with | true => .ok ⟨q.1, H, n, []⟩ | false => .no ["pure"]); cases isUnk H q.2 <;> rfl
      | none => show Option.rec (motive := fun _ => R Res) _ _ (pr f) = _; cases pr f <;> rfl
section
variable {P : Program} {B : Nat} [Low B]
def PrimsOK (P : Program) (B : Nat) (pr : Prims) : Prop := ∀ f c, pr f = some c -> CallOK P B c
theorem noPrims_ok : PrimsOK P B noPrims := fun _ _ h => by cases h
theorem addC_ok {g : FuncId} {c : CallE} {pr : Prims} (h : PrimsOK P B pr) (hc : CallOK P B c) : PrimsOK P B (addC g c pr) := fun f c' hp => by
  have hp : Bool.rec (motive := fun _ => Option CallE) (pr f) (some c) (Nat.beq f g) = some c' := hp
  cases h1 : Nat.beq f g with
  | false => rw [h1] at hp; exact h _ _ hp
  | true => rw [h1] at hp; cases hp; exact hc
theorem cloneE_ok {g : FuncId} (he : ∀ a w, (callFunc g #[a]).run P w = .ok (.enter g #[a]) w)
    (hl : ∀ b es clock w, w.heap[b]? = some (.map es clock) -> Calls P g #[.map (some b)] w fun e w' => e = .returned (.map (some w.heap.size)) ∧ w' = w.alloc (.map es clock)) : CallOK P B (cloneE g) := fun f args H n r h ρ w hs hw hargs => by
  unfold cloneE at h
  have h0 := if_ok h
  clear h
  obtain ⟨h1, h⟩ := h0
  have e1 := Nat.eq_of_beq_eq_true h1
  subst e1
  split at h
  · rename_i m
    obtain ⟨q, hq, h⟩ := bind_ok h
    have hm := mapOf_ok hq
    obtain ⟨hsh, hb⟩ := hs.at_ m _ hm
    have hmn := hw.lt m _ hm
    left
    refine ⟨?_, ?_⟩
    · exact he _ w
    have hcl := hl _ _ _ w hb
    have hren : (([Value.map (some m)] : List Value).map (ren ρ)).toArray = #[.map (some (ρ m).blk)] := by simp [ren_map]
    rw [hren]
    refine Calls.mono hcl fun e w' ⟨he, hw'⟩ => ⟨_, he, ?_⟩
    subst hw'
    unfold newO at h
    obtain ⟨n', hn, h⟩ := bind_ok h
    obtain ⟨v, hv, h⟩ := bind_ok h
    cases h
    cases hv
    have := fN_ok hn
    subst this
    have c : Now B ρ H n w .leaf ⟨#[], []⟩ := ⟨hs, hw, ⟨fun t v hv => (by cases hv), fun t v hv => (by cases hv)⟩⟩
    have ag : ∀ e ∈ q.1, renE (upd ρ n ⟨w.heap.size, 0, 0⟩) e = renE ρ e := fun e he => by
      simp only [renE, ren_upd (hmn.2 e he).1, ren_upd (hmn.2 e he).2]
    obtain ⟨k1, k2, k3⟩ := newOK (k := w.drawn) (xt := 0) (o := .map q.1 q.2) (ob := .map (q.1.map (renE ρ)).toArray q.2) c ⟨by rw [upd_same], by rw [List.map_congr_left ag]⟩ (belowO_up (by omega) hmn.2)
    exact ⟨_, by rw [ren_map, upd_same], k1, k2, k3⟩
  · cases h
theorem callR_ok (hm : P.follows .mixedOrders = true) (hok : P.funcs.toList.all okFn = true) {mm : MemoG} (hmm : MemosG P B mm) {pt : Pure} (hpt : PureOK P B pt) {pr : Prims} (hpr : PrimsOK P B pr) {tab : Tab} (ht : TabOK P B tab) (lf : Nat) : ∀ d, CallOK P B (callR P B mm pt pr tab lf d)
  | 0 => fun f args H n r h => by cases h
  | d + 1 => fun f args H n r h ρ w hs hw hargs => by
    have ih := callR_ok hm hok hmm hpt hpr ht lf d
    rw [callR_succ] at h
    cases hmf : mm f with
    | some m =>
      rw [hmf] at h
      simp only at h
      cases hh : hasH m.G H with
      | false => rw [hh] at h; cases h
      | true =>
        rw [hh] at h
        have h' : memoE B m.r args H n = .ok r := h
        left
        obtain ⟨m0, m1, m2⟩ := hmm f m hmf
        have harg : args = [] := by
          have h9 := h'
          unfold memoE at h9
          have := (if_ok h9).1
          rw [Bool.and_eq_true, Bool.and_eq_true, Bool.and_eq_true] at this
          cases args with
          | nil => rfl
          | cons _ _ => cases this.1.1.1
        subst harg
        refine ⟨m1 w, Calls.mono (m2 w (sat_part m0 hh hs)) fun e w' he => ?_⟩
        obtain ⟨v, rfl, hd⟩ := he
        exact ⟨v, rfl, (memo_did hs hw h' hd).2⟩
    | none =>
      rw [hmf] at h
      simp only at h
      cases htf : tab f n with
      | some e =>
        rw [htf] at h
        simp only at h
        cases hb : (sameL (sameV 6) e.args args && sameH e.H H) with
        | false => rw [hb] at h; cases h
        | true =>
          rw [hb] at h
          cases h
          rw [Bool.and_eq_true] at hb
          have ha := sameL_ok _ _ (fun a _ b => sameV_ok _ a b) hb.1
          have hH := sameH_ok hb.2
          subst ha
          subst hH
          obtain ⟨call, hc, hr⟩ := ht f n e htf
          exact hc f e.args e.H n e.r hr ρ w hs hw hargs
      | none =>
        rw [htf] at h
        simp only at h
        cases hpf : pt f args with
        | none =>
          rw [hpf] at h
          simp only at h
          cases hpc : pr f with
          | some c =>
            rw [hpc] at h
            exact hpr f c hpc f args H n r h ρ w hs hw hargs
          | none =>
          rw [hpc] at h
          exact bodyE_ok hm hok ih lf f args H n r (bodyF_le (fun f args H n => Le.refl _) lf f args H n r h) ρ w hs hw hargs
        | some q =>
          obtain ⟨v, i⟩ := q
          rw [hpf] at h
          simp only at h
          cases hu : isUnk H i with
          | false => rw [hu] at h; cases h
          | true =>
            rw [hu] at h
            cases h
            have F := hpt f args v i hpf
            have hren : args.map (ren ρ) = args := closedL hs.fix F.closed
            obtain ⟨k, e, fr, hk⟩ := hs.at_ i .unk (lk_ok.2 (isUnk_ok hu))
            rw [hs.fix i F.low] at hk
            left
            rw [hren]
            refine ⟨F.enters w, Calls.mono (F.says w k e fr hk) fun e w' he => ?_⟩
            obtain ⟨v', rfl, hb, rfl⟩ := he
            refine ⟨_, rfl, ρ, (ren_closed hs.fix F.value).symm, sat_below hs hb, ⟨fun _ _ => rfl, hb.os, hb.tape, hb.output, hb.size, fun b hlt _ => hb.block b hlt, fun j o ho hn => absurd (hw.lt j o ho).1 (by omega)⟩, Stat.refl hw⟩
end
end V
end Go.Proofs.YtpjpdohdceabpaaGreatDoor

/-
  The reckoner over one block that came in, wherever it lies.
-/
namespace Go.Proofs.YtpjpdohdceabpaaGreatDoor
open Go.RowKit
namespace V
section
variable {P : Program} {B : Nat} [Low B]
end
end V
end Go.Proofs.YtpjpdohdceabpaaGreatDoor
