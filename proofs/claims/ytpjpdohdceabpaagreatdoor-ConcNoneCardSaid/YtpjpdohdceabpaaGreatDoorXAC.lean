/-
  The rest of the operations, and all of them in one.
-/
import Derived.Test.YtpjpdohdceabpaaGreatDoorXAB
import Derived.Test.YtpjpdohdceabpaaGreatDoorXAA
import Derived.LoopN
import Derived.Scope
set_option linter.unusedSectionVars false
set_option linter.unusedVariables false
set_option linter.unusedSimpArgs false
set_option maxRecDepth 100000
set_option maxHeartbeats 8000000
namespace Go.Proofs.YtpjpdohdceabpaaGreatDoor
open Go.RowKit
namespace V
set_option linter.unusedVariables false
section
variable {P : Program} {B n : Nat} {ρ : Lies} {H : AH} {w : World} {E : Tr} {a : Act} {o : Oper} {r : Res} [Low B]
theorem lastN_ok : ∀ {l : List Nat} {b : Nat}, lastN l = .ok b -> l.toArray.back? = some b
  | [], b, h => by cases h
  | [x], b, h => by cases h; rfl
  | x :: y :: l, b, h => by
    have := lastN_ok (l := y :: l) h
    simpa [List.getLast?_cons] using this
theorem findB_ok {b : Nat} : ∀ {es : List MapEntry} {e : MapEntry}, findB b es = .ok e -> (es.map (renE ρ)).find? (fun e => e.born == b) = some (renE ρ e) 
  | [], e, h => by cases h
  | x :: es, e, h => by
    simp only [findB] at h
    split at h
    · rename_i hb
      cases h
      have hb := Nat.eq_of_beq_eq_true hb
      have : ((renE ρ x).born == b) = true := by simp [renE, hb]
      simp only [List.map_cons, List.find?_cons, this]
    · rename_i hb
      have hb := Nat.ne_of_beq_eq_false hb
      have : ((renE ρ x).born == b) = false := by simp [renE, hb]
      simp only [List.map_cons, List.find?_cons, this]
      exact findB_ok h
theorem eEntry_ok (c : Now B ρ H n w E a) {it : Operand} (h : eEntry P B E o it H n = .ok r) : GoodV P B ρ H n w r (Instr.entry (a.eval it)) := by
  unfold eEntry at h
  replace h := bind_ok h; obtain ⟨p, hp, h⟩ := h
  replace h := bind_ok h; obtain ⟨ad, had, h⟩ := h
  replace h := if_ok h; obtain ⟨ho, h⟩ := h
  replace h := bind_ok h; obtain ⟨ob, hob, h⟩ := h
  obtain ⟨hpe, hs⟩ := addrV_ok had
  replace ho := Nat.eq_of_beq_eq_true ho
  rw [(c.evX hp).1, hpe, ren_ptr]
  have hat := At.ob c hob
  split at h
  · rename_i m since seen last
    obtain ⟨hsh, hmem⟩ := hat
    have hgo := run_getObj (P := P) hmem (by simp)
    rw [zero_off hs ho hsh]
    replace h := bind_ok h; obtain ⟨b, hb, h⟩ := h
    replace h := bind_ok h; obtain ⟨q, hq, h⟩ := h
    replace h := if_ok h; obtain ⟨hcl, h⟩ := h
    replace h := bind_ok h; obtain ⟨e, he, h⟩ := h
    have hgm := run_getObj (P := P) (c.map hq).2 (by simp)
    have hg' : (getObj (ρ ad.block).blk).run P w = .ok (.mapIter (some (ρ m).blk) since seen.toArray last) w := by simpa using hgo
    replace hcl := Nat.eq_of_beq_eq_true hcl
    have hfind : ((q.1.map (renE ρ)).toArray).find? (fun e => e.born == b) = some (renE ρ e) := by
      rw [List.find?_toArray]; exact findB_ok he
    refine stayV c h ?_
    have hne : (q.2 != last) = false := by simp [hcl]
    simp only [Instr.entry, Sem.run_bind, hg', Result.andThen_ok, lastN_ok hb, hgm, hne, Bool.false_eq_true, if_false, hfind, Sem.run_pure]
    simp [renE]
  · cases h
theorem delE_ok : ∀ {es q : List MapEntry} {i : Nat}, delE es i = .ok q -> (q.map (renE ρ)).toArray = ((es.map (renE ρ)).toArray).eraseIdxIfInBounds i ∧ ∀ e ∈ q, e ∈ es
  | [], q, i, h => by cases h
  | e :: t, q, 0, h => by
    cases h
    refine ⟨?_, fun e' he => List.mem_cons_of_mem _ he⟩
    apply Array.ext'
    simp [Array.eraseIdxIfInBounds]
  | e :: t, q, i + 1, h => by
    simp only [delE] at h
    replace h := bind_ok h; obtain ⟨q', hq', h⟩ := h
    cases h
    obtain ⟨h1, h2⟩ := delE_ok hq'
    refine ⟨?_, fun e' he => ?_⟩
    · have h1' := congrArg Array.toList h1
      apply Array.ext'
      simp [Array.eraseIdxIfInBounds] at h1' ⊢
      split
      · rename_i hlt
        rw [if_pos hlt] at h1'
        simpa using h1'
      · rename_i hlt
        rw [if_neg hlt] at h1'
        simpa using h1'
    · rcases List.mem_cons.1 he with rfl | he
      · exact List.mem_cons_self ..
      · exact List.mem_cons_of_mem _ (h2 e' he)
theorem isU8_ok {d : TypeDesc} {u : Unit} (h : isU8 d = .ok u) : d = .int .u8 := by
  unfold isU8 at h
  split at h <;> cases h
  rfl
theorem bytesOf_ok : ∀ {l : List Value} {bs : List UInt8}, bytesOf l = .ok bs -> ∃ ns : List Int, l.map (ren ρ) = ns.map (Value.int .u8) ∧ ∀ q : ByteArray, ns.foldl (fun r n => r.push (UInt8.ofNat n.toNat)) q = ⟨q.data ++ bs.toArray⟩
  | [], bs, h => by cases h; exact ⟨[], rfl, fun q => by simp⟩
  | v :: t, bs, h => by
    simp only [bytesOf] at h
    split at h
    · rename_i m
      replace h := bind_ok h; obtain ⟨k, hk, h⟩ := h
      replace h := bind_ok h; obtain ⟨q, hq, h⟩ := h
      cases h
      obtain ⟨ns, h1, h2⟩ := bytesOf_ok hq
      refine ⟨m :: ns, by simp [h1], fun q' => ?_⟩
      rw [List.foldl_cons, h2, fN_ok hk]
      simp [ByteArray.push]
    · cases h
theorem eConvert_ok (c : Now B ρ H n w E a) {src dst : TypeId} {x : Operand} (ho : o.op = .convert src dst x) (h : eConvert P B E o src dst x H n = .ok r) : Good P B ρ H n w r (execOp a.eval o) := by
  have hex : execOp a.eval o = (do pure (.value (<- convert src dst (a.eval x)))) := by
    unfold execOp; simp only [ho]
  unfold eConvert at h
  replace h := bind_ok h; obtain ⟨v, hv, h⟩ := h
  replace h := bind_ok h; obtain ⟨ds, hds, h⟩ := h
  replace h := bind_ok h; obtain ⟨dd, hdd, h⟩ := h
  replace hds := getTy_ok hds
  replace hdd := getTy_ok hdd
  have fin : GoodV P B ρ H n w r (convert src dst (ren ρ v)) -> Good P B ρ H n w r (execOp a.eval o) := fun hg => by
    rw [hex, (c.evX hv).1]; exact hg.good
  split at h
  · rename_i e b
    replace h := bind_ok h; obtain ⟨de, hde, h⟩ := h
    replace h := bind_ok h; obtain ⟨u, hu, h⟩ := h
    replace h := bind_ok h; obtain ⟨cs, hcs, h⟩ := h
    replace h := bind_ok h; obtain ⟨l, hl, h⟩ := h
    replace hde := getTy_ok hde
    have hu := isU8_ok hu
    subst hu
    replace hcs := byteVs_ok hcs
    replace hl := fN_ok hl
    rw [hl] at h
    refine fin ?_
    have hrun := run_bytes_of_string (P := P) w src dst e ⟨⟨b⟩⟩ hds hdd hde
    have hsz : (⟨⟨b⟩⟩ : ByteArray).size = b.length := rfl
    have hge := grownCap_ge' w (⟨⟨b⟩⟩ : ByteArray).size 0 e
    generalize hG : grownCap w (⟨⟨b⟩⟩ : ByteArray).size 0 e = G at hrun hge
    have hbs : (bytesRow ⟨⟨b⟩⟩ G).size = G := by
      simp only [bytesRow, Array.size_append, Array.size_map, Array.size_replicate]
      have h2 : (⟨⟨b⟩⟩ : ByteArray).data.size = b.length := rfl
      have h3 : (⟨b⟩ : Array UInt8).size = b.length := rfl
      omega
    have hbel : ∀ v ∈ cs, below n deep v = true := fun v hv => by
      rw [hcs] at hv
      obtain ⟨k, _, rfl⟩ := List.mem_map.1 hv
      rfl
    refine newSlice_ok (k := w.drawn + 1) (xt := G - b.length) c h (at_new (conc := bytesRow ⟨⟨b⟩⟩ G) (fr := ((bytesRow ⟨⟨b⟩⟩ G).size, (bytesRow ⟨⟨b⟩⟩ G).size + 1)) (fun k v hk => ?_) hbel ?_ (fun h => by cases h) (.inr (Nat.le_refl _))) hbel ?_
    · rw [hcs, List.getElem?_map] at hk
      cases hb : b[k]? with
      | none => rw [hb] at hk; cases hk
      | some q =>
        rw [hb] at hk; cases hk
        have hlt := (List.getElem?_eq_some_iff.1 hb).1
        unfold bytesRow
        rw [Array.getElem?_append_left (by simpa using hlt)]
        simp [hb]
    · rw [hbs, hcs, List.length_map]; omega
    · rw [ren_string, hrun]
      have e1 : b.length + (G - b.length) = G := by omega
      rw [e1]
      rfl
  · rename_i e base k cp
    replace h := bind_ok h; obtain ⟨de, hde, h⟩ := h
    replace h := bind_ok h; obtain ⟨u, hu, h⟩ := h
    replace hde := getTy_ok hde
    have hu := isU8_ok hu
    subst hu
    refine fin ?_
    split at h
    · refine stayV c h ?_
      rw [ren_slice0, run_convert_bytes_string w src dst e none k cp hds hde hdd, ren_string]
      rfl
    · rename_i ad
      replace h := bind_ok h; obtain ⟨l, hl, h⟩ := h
      replace h := bind_ok h; obtain ⟨bs, hbs, h⟩ := h
      refine stayV c h ?_
      rw [ren_slice, run_convert_bytes_string w src dst e _ k _ hds hde hdd, ren_string]
      obtain ⟨ns, h1, h2⟩ := bytesOf_ok (ρ := ρ) hbs
      have hload : (loadCells (ra ρ ad) k).run P w = .ok (ns.map (Value.int .u8)).toArray w := by
        split at hl
        · cases hl
          have : ns = [] := by cases ns with | nil => rfl | cons _ _ => simp at h1
          subst this
          simpa using run_loadCells_list (P := P) w (ra ρ ad) [] (by simp)
        · rename_i j
          replace hl := if_ok hl; obtain ⟨hs, hl⟩ := hl
          replace hl := bind_ok hl; obtain ⟨b, hb, hl⟩ := hl
          have hlen := (seg_ok hl).1
          have := run_loadCells_list (P := P) w (ra ρ ad) (l.map (ren ρ)) (fun j v hj => by
            rw [spot_none hs, Addr.add_mid]
            exact c.range hb hl j v hj)
          rw [List.length_map, hlen, h1] at this
          exact this
      rw [run_bytesToString (P := P) w (ra ρ ad) k _ ns hload, h2]
      simp [ByteArray.empty, ByteArray.emptyWithCapacity] <;> rfl
  · rename_i k a'
    replace h := bind_ok h; obtain ⟨z, hz, h⟩ := h
    refine fin (stayV c h ?_)
    rw [intR_ok hz, ren_int, ren_int]
    simp [convert, run_underlying hds, run_underlying hdd, Conv.intToInt]
  · refine fin (stayV c h ?_)
    rw [ren_string]
    simp [convert, run_underlying hds, run_underlying hdd]
  · refine pureOp_ok c h (fun cs b => by rw [ho]; simp) fun z hz => ?_
    rw [ho] at hz
    simp only [Op.operands] at hz
    have : z = x := by simpa using hz
    exact ⟨v, by simp, this ▸ hv⟩
theorem evL_mem : ∀ {xs : List Operand} {vs : List Value}, evL B E xs = .ok vs -> ∀ x ∈ xs, ∃ v ∈ vs, evX B E x = .ok v
  | [], vs, h, x, hx => by cases hx
  | y :: xs, vs, h, x, hx => by
    simp only [V.evL] at h
    replace h := bind_ok h; obtain ⟨v, hv, h⟩ := h
    replace h := bind_ok h; obtain ⟨q, hq, h⟩ := h
    cases h
    rcases List.mem_cons.1 hx with rfl | hx
    · exact ⟨v, List.mem_cons_self .., hv⟩
    · obtain ⟨u, h1, h2⟩ := evL_mem hq x hx
      exact ⟨u, List.mem_cons_of_mem _ h1, h2⟩
theorem noneGood (c : Now B ρ H n w E a) {s : Sem Value} (h : (Res.mk (.tuple #[]) H n []) = r) (hr : s.run P w = .ok (.tuple #[]) w) : GoodV P B ρ H n w r s := by
  subst h
  exact ⟨ρ, w, by simpa using hr, c.sat, Ext.refl (fun i o hi => (c.wf.lt i o hi).1) [], Stat.refl c.wf⟩
theorem eBuiltin_ok (c : Now B ρ H n w E a) {cl : Call} (ho : o.op = .call cl) (h : eBuiltin P B E o cl H n = .ok r) : Good P B ρ H n w r (execOp a.eval o) := by
  unfold eBuiltin at h
  split at h
  · rename_i b hb
    replace h := bind_ok h; obtain ⟨vs, hvs, h⟩ := h
    obtain ⟨hargs, hbel⟩ := c.evL hvs
    have hargs' : cl.args.map a.eval = (vs.map (ren ρ)).toArray := Array.ext' (by rw [Array.toList_map, hargs])
    generalize hcon : (cl.args.map fun | .const _ => true | _ => false) = con
    have hex : execOp a.eval o = builtin b cl.argTypes o.type con ((vs.map (ren ρ)).toArray) := by
      rw [<- hargs', <- hcon]
      unfold execOp; simp only [ho]
      unfold resolve
      simp only [hb]
      rfl
    have pure_ : pureOp P B E o vs H n = .ok r -> Good P B ρ H n w r (execOp a.eval o) := fun h => pureOp_ok c h (fun cs b => by rw [ho]; simp) fun z hz => by
      rw [ho] at hz
      have : z ∈ cl.args := by simpa [Op.operands, Call.operands, hb] using hz
      exact evL_mem hvs z (by simpa using this)
    generalize htys : cl.argTypes.toList = tys at h
    have htys' : cl.argTypes = tys.toArray := by rw [<- htys]
    rw [hex, htys']
    unfold builtinE at h
    split at h
    · -- len of a row
      replace h := bind_ok h; obtain ⟨e, he, h⟩ := h
      replace he := sliceTy_ok he
      refine (stayV (s := Builtin.len_ _ _ _) c h ?_).good
      rename_i base k cp t rest
      cases base <;> simp [Builtin.len_, run_underlying he, goInt]
    · -- len of a map
      rename_i bm t rest
      replace h := bind_ok h; obtain ⟨d, hd, h⟩ := h
      replace h := bind_ok h; obtain ⟨m, hm, h⟩ := h
      replace h := bind_ok h; obtain ⟨k, hk, h⟩ := h
      replace hd := getTy_ok hd
      replace hk := fN_ok hk
      subst hk
      have hgo := run_getObj (P := P) (c.map hm).2 (by simp)
      split at h
      · refine (stayV (s := Builtin.len_ _ _ _) c h ?_).good
        simp [Builtin.len_, run_underlying hd, hgo, goInt]
      · cases h
    · -- len of a string
      rename_i s t rest
      replace h := bind_ok h; obtain ⟨d, hd, h⟩ := h
      replace hd := getTy_ok hd
      split at h
      · replace h := bind_ok h; obtain ⟨v, hv, h⟩ := h
        rw [natR_ok hv] at h
        refine (stayV (s := Builtin.len_ _ _ _) c h ?_).good
        simp [Builtin.len_, run_underlying hd, goInt]
      · cases h
    · rw [hex, htys'] at pure_; exact pure_ h
    · -- cap of nil
      rename_i k cp t rest
      replace h := bind_ok h; obtain ⟨e, he, h⟩ := h
      replace he := sliceTy_ok he
      refine (stayV (s := Builtin.cap_ _ _ _) c h ?_).good
      simp [Builtin.cap_, run_underlying he, goInt]
    · rename_i ad k cp t rest
      replace h := bind_ok h; obtain ⟨e, he, h⟩ := h
      replace h := bind_ok h; obtain ⟨q, hq, h⟩ := h
      replace h := if_ok h; obtain ⟨hext, h⟩ := h
      replace he := sliceTy_ok he
      obtain ⟨cs, fr, g1, g2, g3, g4, g5⟩ := c.cells hq
      have hx : (ρ ad.block).xt = 0 ∨ Nat.ble big cp = true := by
        rw [Bool.or_eq_true] at hext
        rcases hext with h9 | h9
        · exact .inl (g4 (by simpa using h9))
        · exact .inr h9
      replace h := bind_ok h; obtain ⟨cu, hcu, h⟩ := h
      replace hcu := fN_ok hcu
      subst hcu
      refine (stayV (s := Builtin.cap_ _ _ _) c h ?_).good
      simp [Builtin.cap_, run_underlying he, goInt, cpv_exact hx]
    · -- append
      rename_i base k cp x t0 t1
      replace h := bind_ok h; obtain ⟨d1, hd1, h⟩ := h
      replace hd1 := getTy_ok hd1
      split at h
      · rename_i kn kq m
        have := (zerosE_ok (ty := o.type) (kq := kq) c hd1 h).good
        simp only [List.map_cons, List.map_nil, ren_int]
        exact this
      · have hx : below n deep x = true := hbel x (by simp)
        have := (appendE_ok (ty := o.type) c h hx).good
        simp only [List.map_cons, List.map_nil]
        exact this
    · -- copy
      rename_i base k cp x t rest
      replace h := bind_ok h; obtain ⟨e, he, h⟩ := h
      replace h := bind_ok h; obtain ⟨es, hes, h⟩ := h
      replace h := bind_ok h; obtain ⟨j, hj, h⟩ := h
      replace h := bind_ok h; obtain ⟨m, hm, h⟩ := h
      replace h := bind_ok h; obtain ⟨new, hnew, h⟩ := h
      replace h := if_ok h; obtain ⟨h1, h⟩ := h
      replace he := sliceTy_ok he
      replace hm := fN_ok hm
      subst hm
      have hsz := run_sizeOf hes w
      have hln := lenV_run (P := P) (ρ := ρ) hj w
      obtain ⟨f1, f2, f3, f4⟩ := firstC_run (P := P) c hnew
      split at h
      · refine (stayV (s := Builtin.copy_ _ _ _) c h ?_).good
        simp [Builtin.copy_, run_underlying he, hln, hsz, f1, goInt]
      · rename_i ad
        replace h := if_ok h; obtain ⟨hs, h⟩ := h
        replace h := bind_ok h; obtain ⟨q, hq, h⟩ := h
        replace h := bind_ok h; obtain ⟨cs', hcs, h⟩ := h
        replace h := bind_ok h; obtain ⟨H', hH, h⟩ := h
        cases h
        obtain ⟨w', k1, k2⟩ := c.store (P := P) hq hcs h1 f4 hH
        have hst := k1 (ra ρ ad) (spot_none hs)
        have : GoodV P B ρ H n w ⟨.int .i64 (.ofNat (Nat.min j k)), H', n, [ad.block]⟩ (Builtin.copy_ (t :: rest).toArray o.type ([Value.slice (some ad) k cp, x].map (ren ρ)).toArray) := by
          refine ⟨ρ, w', ?_, k2⟩
          simp [Builtin.copy_, run_underlying he, hln, hsz, f1, goInt, hst]
        exact this.good
    · -- delete
      rename_i bm kv t rest
      replace h := bind_ok h; obtain ⟨kt, hkt, h⟩ := h
      replace h := bind_ok h; obtain ⟨q, hq, h⟩ := h
      replace h := bind_ok h; obtain ⟨f, hf, h⟩ := h
      obtain ⟨kty, h1, h2, h3⟩ := mapTy_ok hkt
      obtain ⟨hsh, hmem⟩ := c.map hq
      have hbelm := (c.wf.lt bm _ (mapOf_ok hq)).2
      have hgo := run_getObj (P := P) hmem (by simp)
      have hfk := run_findKey (P := P) (w := w) (ρ := ρ) h2 hf
      have hck : ∀ e v, (Instr.checkKey e 10000 kty v).run P w = .ok () w := fun e v => run_checkKey h2 h3 e 9999 v
      replace h := bind_ok h; obtain ⟨es, hes, h⟩ := h
      replace h := bind_ok h; obtain ⟨H', hH, h⟩ := h
      cases h
      have key : (es.map (renE ρ)).toArray = (match f with | some (i, _) => ((q.1.map (renE ρ)).toArray).eraseIdxIfInBounds i | none => (q.1.map (renE ρ)).toArray) ∧ ∀ e ∈ es, e ∈ q.1 := by
        split at hes
        · exact delE_ok (ρ := ρ) hes
        · cases hes; exact ⟨rfl, fun _ h => h⟩
      have hw := writeOK (ob := .map (es.map (renE ρ)).toArray q.2) c hH (wrote_setOb hmem) ⟨hsh, rfl⟩ (fun e he => hbelm e (key.2 e he))
      have hso := run_setObj (P := P) (ob' := .map (es.map (renE ρ)).toArray q.2) hmem (by simp)
      have : GoodV P B ρ H n w ⟨.tuple #[], H', n, [bm]⟩ (Builtin.delete_ (t :: rest).toArray o.type ([Value.map (some bm), kv].map (ren ρ)).toArray) := by
        refine ⟨ρ, _, ?_, hw⟩
        rw [key.1] at hso ⊢
        cases f with
        | none =>
          simp only at hso
          simp [Builtin.delete_, run_underlying h1, hgo, hck, hfk, hso]
        | some p =>
          simp at hso
          simp [Builtin.delete_, run_underlying h1, hgo, hck, hfk, hso]
      exact this.good
    · rename_i k cp t rest
      replace h := bind_ok h; obtain ⟨e, he, h⟩ := h
      replace he := sliceTy_ok he
      refine (noneGood (s := Builtin.clear_ _ _ _) c (by cases h; rfl) ?_).good
      simp [Builtin.clear_, run_underlying he]
    · rename_i ad k cp t rest
      replace h := bind_ok h; obtain ⟨e, he, h⟩ := h
      replace he := sliceTy_ok he
      split at h
      · refine (noneGood (s := Builtin.clear_ _ _ _) c (by cases h; rfl) ?_).good
        simp [Builtin.clear_, run_underlying he]
      · rename_i j
        replace h := if_ok h; obtain ⟨hs, h⟩ := h
        replace h := bind_ok h; obtain ⟨z, hz, h⟩ := h
        replace h := bind_ok h; obtain ⟨zs, hzs, h⟩ := h
        replace h := if_ok h; obtain ⟨h1, h⟩ := h
        replace h := bind_ok h; obtain ⟨q, hq, h⟩ := h
        replace h := bind_ok h; obtain ⟨cs', hcs, h⟩ := h
        replace h := bind_ok h; obtain ⟨H', hH, h⟩ := h
        cases h
        obtain ⟨i, z0, z1, z2, z3, z4⟩ := zeroC_ok hz
        subst z3
        have hcl := repeat_closed hzs z4
        obtain ⟨w', k1, k2⟩ := c.store (P := P) hq hcs h1 (c.closed hcl).2 hH
        have hst := k1 (ra ρ ad) (spot_none hs)
        rw [closedL c.sat.fix hcl] at hst
        have hzc := zeroCells_eq hzs
        have hzv : (zeroValue e).run P w = .ok z0 w := run_zeroValue z1 z2 w
        have : GoodV P B ρ H n w ⟨.tuple #[], H', n, [ad.block]⟩ (Builtin.clear_ (t :: rest).toArray o.type ([Value.slice (some ad) (j + 1) cp].map (ren ρ)).toArray) := by
          refine ⟨ρ, w', ?_, k2⟩
          simp [Builtin.clear_, run_underlying he, hzv, hzc, hst]
        exact this.good
    · rw [hex, htys'] at pure_; exact pure_ h
    · rw [hex, htys'] at pure_; exact pure_ h
    · cases h
  · cases h
end
end V
end Go.Proofs.YtpjpdohdceabpaaGreatDoor

/-
  All operations in one; what is asked of a call; an operation as the code meets it.
-/
namespace Go.Proofs.YtpjpdohdceabpaaGreatDoor
open Go.RowKit
namespace V
set_option linter.unusedVariables false
section
variable {P : Program} {B n : Nat} {ρ : Lies} {H : AH} {w : World} {E : Tr} {a : Act} {o : Oper} {r : Res} [Low B]
theorem opE_ok (c : Now B ρ H n w E a) (h : opE P B E o H n = .ok r) : Good P B ρ H n w r (execOp a.eval o) := by
  unfold opE at h
  split at h
  · rename_i x ho
    replace h := bind_ok h; obtain ⟨v, hv, h⟩ := h
    have e : execOp a.eval o = pure (.value (a.eval x)) := by unfold execOp; simp only [ho]
    rw [e]; exact eMove_ok c hv h
  · rename_i x ho
    replace h := bind_ok h; obtain ⟨v, hv, h⟩ := h
    have e : execOp a.eval o = pure (.value (a.eval x)) := by unfold execOp; simp only [ho]
    rw [e]; exact eMove_ok c hv h
  · rename_i x y z ho
    have e : execOp a.eval o = (do pure (.value (if <- asBool (a.eval x) then a.eval y else a.eval z))) := by unfold execOp; simp only [ho]
    rw [e]; exact ePick_ok c h
  · rename_i t ho
    have e : execOp a.eval o = (do pure (.value (<- Instr.alloc t true (.tuple #[])))) := by unfold execOp; simp only [ho]
    rw [e]; exact (eAlloc_ok c h).good
  · rename_i t x ho
    have e : execOp a.eval o = (do pure (.value (<- Instr.box t (a.eval x)))) := by unfold execOp; simp only [ho]
    rw [e]; exact (eBox_ok c h).good
  · rename_i t ps ho
    have e : execOp a.eval o = (do pure (.value (<- Instr.build t (ps.map fun (i, x) => (i, a.eval x))))) := by unfold execOp; simp only [ho]
    rw [e]; exact (eBuild_ok c h).good
  · rename_i t len ps ho
    have e : execOp a.eval o = (do pure (.value (<- Instr.buildSlice t len (ps.map fun (i, x) => (i, a.eval x))))) := by unfold execOp; simp only [ho]
    rw [e]; exact (eBuildSlice_ok c h).good
  · rename_i t x ho
    have e : execOp a.eval o = (do pure (.value (<- Instr.loadAt t (a.eval x)))) := by unfold execOp; simp only [ho]
    rw [e]; exact (eLoad_ok c h).good
  · rename_i t x y ho
    have e : execOp a.eval o = (do Instr.storeAt t (a.eval x) (a.eval y); pure .skip) := by unfold execOp; simp only [ho]
    rw [e]; exact eStore_ok c h
  · rename_i x ho
    exact eNilCheck_ok c h ho
  · rename_i op t x y ty ho
    exact eBinOp_ok c ho h
  · rename_i op t x ho
    exact eUnOp_ok c ho h
  · rename_i src dst x ho
    exact eConvert_ok c ho h
  · rename_i fn f g ho
    have e : execOp a.eval o = (do pure (.value (<- Instr.makeFunc fn (f.map a.eval) (g.map a.eval)))) := by unfold execOp; simp only [ho]
    rw [e]; exact (eMakeFunc_ok c h).good
  · rename_i t m ho
    have e : execOp a.eval o = (do pure (.value (<- Instr.makeMap t (m.map a.eval)))) := by unfold execOp; simp only [ho]
    rw [e]; exact (eMakeMap_ok c h).good
  · rename_i t l cp ho
    have e : execOp a.eval o = (do pure (.value (<- Instr.makeSlice t (a.eval l) (a.eval cp)))) := by unfold execOp; simp only [ho]
    rw [e]; exact (eMakeSlice_ok c h).good
  · rename_i t x lo hi mx ho
    have e : execOp a.eval o = (do pure (.value (<- Instr.sliceAt t (a.eval x) (lo.map a.eval) (hi.map a.eval) (mx.map a.eval)))) := by unfold execOp; simp only [ho]
    rw [e]; exact (eSlice_ok c h).good
  · rename_i t x f ho
    have e : execOp a.eval o = (do pure (.value (<- Instr.fieldAt t (a.eval x) f))) := by unfold execOp; simp only [ho]
    rw [e]; exact (eFieldAddr_ok c h).good
  · rename_i t x f ho
    have e : execOp a.eval o = (do pure (.value (<- Instr.field t (a.eval x) f))) := by unfold execOp; simp only [ho]
    rw [e]; exact (eField_ok c h).good
  · rename_i t x ix ho
    have e : execOp a.eval o = (do pure (.value (<- Instr.indexAt t (a.eval x) (a.eval ix)))) := by unfold execOp; simp only [ho]
    rw [e]; exact (eIndexAddr_ok c h).good
  · rename_i t x ix ho
    have e : execOp a.eval o = (do pure (.value (<- Instr.index t (a.eval x) (a.eval ix)))) := by unfold execOp; simp only [ho]
    rw [e]; exact (eIndex_ok c h).good
  · rename_i t x ix ok ho
    have e : execOp a.eval o = (do pure (.value (<- Instr.lookup t (a.eval x) (a.eval ix) ok))) := by unfold execOp; simp only [ho]
    rw [e]; exact (eLookup_ok c h).good
  · rename_i t m k x ho
    have e : execOp a.eval o = (do Instr.mapUpdate t (a.eval m) (a.eval k) (a.eval x); pure .skip) := by unfold execOp; simp only [ho]
    rw [e]; exact eMapUpdate_ok c h
  · rename_i t m k x ho
    have e : execOp a.eval o = (do Instr.mapUpdate t (a.eval m) (a.eval k) (a.eval x); pure .skip) := by unfold execOp; simp only [ho]
    rw [e]; exact eMapUpdate_ok c h
  · rename_i t m k ho
    have e : execOp a.eval o = (do pure (.value (<- Instr.mapEntry t (a.eval m) (a.eval k)))) := by unfold execOp; simp only [ho]
    rw [e]; exact (eMapEntry_ok c h).good
  · rename_i t m s x ho
    have e : execOp a.eval o = (do Instr.entryStore t (a.eval m) (a.eval s) (a.eval x); pure .skip) := by unfold execOp; simp only [ho]
    rw [e]; exact eEntryStore_ok c h
  · rename_i t x ho
    have e : execOp a.eval o = (do pure (.value (<- Instr.range t (a.eval x)))) := by unfold execOp; simp only [ho]
    rw [e]; exact (eRange_ok c h).good
  · rename_i it isS ho
    have e : execOp a.eval o = (do pure (.value (<- Instr.next (a.eval it) isS o.type))) := by unfold execOp; simp only [ho]
    rw [e]; exact (eNext_ok c h).good
  · rename_i x i ho
    have e : execOp a.eval o = (do pure (.value (<- Instr.extract (a.eval x) i))) := by unfold execOp; simp only [ho]
    rw [e]; exact (eExtract_ok c h).good
  · rename_i it ho
    have e : execOp a.eval o = (do pure (.value (<- Instr.entry (a.eval it)))) := by unfold execOp; simp only [ho]
    rw [e]; exact (eEntry_ok c h).good
  · rename_i cl ho
    exact eBuiltin_ok c ho h
  · cases h
def Did (B : Nat) (ρ : Lies) (H : AH) (n : Nat) (w : World) (r : Res) (v : Value) (w' : World) : Prop :=
  ∃ ρ', v = ren ρ' r.v ∧ Sat B ρ' (lk r.H) w' ∧ Ext ρ n w ρ' (lk r.H) r.n w' r.wr ∧ Stat B (lk H) n (lk r.H) r.n r.wr
def CallOK (P : Program) (B : Nat) (call : CallE) : Prop :=
  ∀ f args H n r, call f args H n = .ok r -> ∀ ρ w, Sat B ρ (lk H) w -> WF B (lk H) n -> (∀ v ∈ args, below n deep v = true) ->
    (((callFunc f (args.map (ren ρ)).toArray).run P w = .ok (.enter f (args.map (ren ρ)).toArray) w ∧ Calls P f (args.map (ren ρ)).toArray w fun e w' => ∃ v, e = .returned v ∧ Did B ρ H n w r v w') ∨
      ∃ v w', (callFunc f (args.map (ren ρ)).toArray).run P w = .ok (.value v) w' ∧ Did B ρ H n w r v w')
def RunOK (P : Program) (s : Sem Next) (w : World) (post : Value -> World -> Prop) : Prop :=
  (∃ v w', (s.run P w = .ok (.value v) w' ∨ (s.run P w = .ok .skip w' ∧ v = undef)) ∧ post v w') ∨
    ∃ f args, s.run P w = .ok (.enter f args) w ∧ Calls P f args w fun e w' => ∃ v, e = .returned v ∧ post v w'
theorem RunOK.wp {post : Value -> World -> Prop} (h : RunOK P (execOp a.eval o) w post) : o.wp P a w (fun a' w' => ∃ v, a' = a.put o.dst v ∧ post v w') (fun _ _ _ => False) := by
  unfold Oper.wp
  rcases h with ⟨v, w', h1 | ⟨h1, rfl⟩, h2⟩ | ⟨f, args, h1, h2⟩
  · rw [h1, Oper.upon_value]; exact ⟨_, rfl, h2⟩
  · rw [h1, Oper.upon_skip]; exact ⟨_, rfl, h2⟩
  · rw [h1, Oper.upon_enter]
    refine Calls.mono h2 fun e w' he => ?_
    obtain ⟨v, rfl, hd⟩ := he
    exact ⟨v, rfl, hd⟩
theorem RunOK.mono {s : Sem Next} {post post' : Value -> World -> Prop} (h : RunOK P s w post) (k : ∀ v w', post v w' -> post' v w') : RunOK P s w post' := by
  rcases h with ⟨v, w', h1, h2⟩ | ⟨f, args, h1, h2⟩
  · exact .inl ⟨v, w', h1, k _ _ h2⟩
  · exact .inr ⟨f, args, h1, Calls.mono h2 fun e w' ⟨v, he, hd⟩ => ⟨v, he, k _ _ hd⟩⟩
theorem RunOK.some {s : Sem Next} {post : Value -> World -> Prop} (h : RunOK P s w post) : ∃ v w', post v w' := by
  rcases h with ⟨v, w', _, h2⟩ | ⟨f, args, _, h2⟩
  · exact ⟨v, w', h2⟩
  · obtain ⟨e, w', fr, ⟨v, _, hd⟩, _⟩ := h2 []
    exact ⟨v, w', hd⟩
theorem exE_run {call : CallE} (hc : CallOK P B call) (c : Now B ρ H n w E a) (h : exE P B call E o H n = .ok r) : RunOK P (execOp a.eval o) w (Did B ρ H n w r) := by
  have plain : opE P B E o H n = .ok r -> RunOK P (execOp a.eval o) w (Did B ρ H n w r) := fun h => by
    obtain ⟨ρ', w', k, h1, h2, h3⟩ := opE_ok c h
    rcases h2 with rfl | ⟨rfl, hv⟩
    · exact .inl ⟨_, w', .inl h1, ρ', rfl, h3⟩
    · exact .inl ⟨_, w', .inr ⟨h1, rfl⟩, ρ', by rw [hv, ren_undef], h3⟩
  unfold exE at h
  split at h
  · rename_i cl ho
    split at h
    · exact plain h
    · rename_i hcal
      replace h := bind_ok h; obtain ⟨t, ht, h⟩ := h
      unfold targetE at ht
      replace ht := bind_ok ht; obtain ⟨vs, hvs, ht⟩ := ht
      split at ht
      · rename_i f hf
        replace ht := bind_ok ht; obtain ⟨fv, hfv, ht⟩ := ht
        split at ht
        · rename_i g first capt
          replace ht := bind_ok ht; obtain ⟨l1, hl1, ht⟩ := ht
          replace ht := bind_ok ht; obtain ⟨l2, hl2, ht⟩ := ht
          cases ht
          replace hl1 := app_ok hl1
          replace hl2 := app_ok hl2
          subst hl1
          subst hl2
          obtain ⟨hargs, hbel⟩ := c.evL hvs
          obtain ⟨hfe, hfb⟩ := c.evX hfv
          have hb2 : ∀ v ∈ first ++ (vs ++ capt), below n deep v = true := fun v hv => by
            simp only [deep, below, Bool.and_eq_true, List.all_eq_true] at hfb
            rcases List.mem_append.1 hv with h | h
            · exact below_deeper (hfb.1 v h)
            · rcases List.mem_append.1 h with h | h
              · exact hbel v h
              · exact below_deeper (hfb.2 v h)
          have hargs' : cl.args.map a.eval = (vs.map (ren ρ)).toArray := Array.ext' (by rw [Array.toList_map, hargs])
          have hex : execOp a.eval o = callFunc g ((first ++ (vs ++ capt)).map (ren ρ)).toArray := by
            unfold execOp; simp only [ho]
            unfold resolve
            simp only [hf, hfe, hargs', ren_func, Deferred.ofValue]
            show callFunc g _ = _
            congr 1
            apply Array.ext'
            simp
          rw [hex]
          rcases hc g _ H n r h ρ w c.sat c.wf hb2 with ⟨h1, h2⟩ | ⟨v, w', h1, h2⟩
          · exact .inr ⟨g, _, h1, h2⟩
          · exact .inl ⟨v, w', .inl h1, h2⟩
        · cases ht
      · cases ht
  · exact plain h
theorem exE_ok {call : CallE} (hc : CallOK P B call) (c : Now B ρ H n w E a) (h : exE P B call E o H n = .ok r) :
    o.wp P a w (fun a' w' => ∃ v, a' = a.put o.dst v ∧ Did B ρ H n w r v w') (fun _ _ _ => False) := (exE_run hc c h).wp
end
structure Run (B : Nat) (ρ0 : Lies) (H0 : AH) (n0 : Nat) (w0 : World) (sz : Nat) (ρ : Lies) (s : St) (w : World) (a : Act) : Prop where
  sat : Sat B ρ (lk s.H) w
  ext : Ext ρ0 n0 w0 ρ (lk s.H) s.n w s.W
  stat : Stat B (lk H0) n0 (lk s.H) s.n s.W
  slots : Slots ρ s.n s.E a
  size : a.tmps.size = sz
  defers : a.defers = []
section
variable {P : Program} {B n0 sz : Nat} {ρ0 ρ : Lies} {H0 : AH} {w0 w : World} {a : Act} {s : St} {o : Oper} {r : Res} [Low B]
theorem Run.now (h : Run B ρ0 H0 n0 w0 sz ρ s w a) : Now B ρ s.H s.n w s.E a := ⟨h.sat, h.stat.wf, h.slots⟩
theorem addW_ok {n0 : Nat} : ∀ {wr W W' : List Nat}, addW n0 W wr = .ok W' -> (∀ i ∈ W, i < n0) -> (∀ i, i < n0 -> (i ∈ W' ↔ i ∈ W ∨ i ∈ wr)) ∧ ∀ i ∈ W', i < n0
  | [], W, W', h, hW => by cases h; exact ⟨fun i _ => by simp, hW⟩
  | j :: t, W, W', h, hW => by
    simp only [addW] at h
    split at h
    · rename_i hj
      rw [Bool.and_eq_true, Nat.ble_eq] at hj
      obtain ⟨h1, h2⟩ := addW_ok h (fun i hi => by
        rcases List.mem_cons.1 hi with rfl | hi
        · exact hj.1
        · exact hW i hi)
      refine ⟨fun i hi => ?_, h2⟩
      rw [h1 i hi, List.mem_cons, List.mem_cons]
      constructor
      · rintro ((h | h) | h)
        · exact .inr (.inl h)
        · exact .inl h
        · exact .inr (.inr h)
      · rintro (h | h | h)
        · exact .inl (.inr h)
        · exact .inl (.inl h)
        · exact .inr h
    · rename_i hj
      obtain ⟨h1, h2⟩ := addW_ok h hW
      refine ⟨fun i hi => ?_, h2⟩
      rw [h1 i hi, List.mem_cons]
      constructor
      · rintro (h | h)
        · exact .inl h
        · exact .inr (.inr h)
      · rintro (h | h | h)
        · exact .inl h
        · subst h
          left
          by_cases hm : i ∈ W
          · exact hm
          · exfalso
            have : (Nat.ble (i + 1) n0 && !W.contains i) = true := by
              rw [Bool.and_eq_true, Nat.ble_eq]
              exact ⟨hi, by simp [hm]⟩
            rw [this] at hj
            cases hj
        · exact .inr h
theorem getD_put' {a : Act} {d : Option Tmp} {t : Tmp} {v : Value} : (a.put d v).tmps.getD t undef = if d = some t ∧ t < a.tmps.size then v else a.tmps.getD t undef := by
  cases d with
  | none => simp [Act.put]
  | some d =>
    simp only [Act.put, Array.getD_eq_getD_getElem?, Array.getElem?_setIfInBounds]
    by_cases h : d = t
    · subst h
      by_cases h2 : d < a.tmps.size <;> simp [h2]
    · simp [h]
theorem Slots.put {ρ ρ' : Lies} {n n' : Nat} {E E' : Tr} {d : Option Tmp} {v : Value} (h : Slots ρ n E a) (hs : a.tmps.size = sz) (hp : putD sz E d v = .ok E') (hn : n <= n') (hag : ∀ i, i < n -> ρ' i = ρ i) (hv : below n' deep v = true) : Slots ρ' n' E' (a.put d (ren ρ' v)) := by
  have keep : ∀ t u, E.get t = .ok u -> a.tmps.getD t undef = ren ρ' u ∧ below n' deep u = true := fun t u hu =>
    ⟨by rw [h.tmp t u hu]; exact (ren_agree (n := n) (fun i hi => hag i hi) (h.bel t u hu)).symm, below_up hn (h.bel t u hu)⟩
  cases d with
  | none =>
    cases hp
    exact ⟨fun t u hu => by rw [getD_put', if_neg (by simp)]; exact (keep t u hu).1, fun t u hu => (keep t u hu).2⟩
  | some d =>
    simp only [putD] at hp
    obtain ⟨hd, hp⟩ := if_ok hp
    rw [Nat.ble_eq] at hd
    refine ⟨fun t u hu => ?_, fun t u hu => ?_⟩
    · rcases Tr.get_put hp hu with ⟨rfl, rfl⟩ | ⟨hne, hu'⟩
      · rw [getD_put', if_pos ⟨rfl, by rw [hs]; exact hd⟩]
      · rw [getD_put', if_neg (by rintro ⟨h1, _⟩; cases h1; exact hne rfl)]
        exact (keep t u hu').1
    · rcases Tr.get_put hp hu with ⟨rfl, rfl⟩ | ⟨hne, hu'⟩
      · exact hv
      · exact (keep t u hu').2
theorem put_size {d : Option Tmp} {v : Value} : (a.put d v).tmps.size = a.tmps.size := by cases d <;> simp [Act.put]
theorem put_defers {d : Option Tmp} {v : Value} : (a.put d v).defers = a.defers := by cases d <;> simp [Act.put]
theorem Run.step (h : Run B ρ0 H0 n0 w0 sz ρ s w a) (hW : ∀ i ∈ s.W, i < n0) {w' : World} {v : Value} (hd : Did B ρ s.H s.n w r v w') {E' : Tr} {W' : List Nat} (hb : below r.n deep r.v = true) (hp : putD sz s.E o.dst r.v = .ok E') (ha : addW n0 s.W r.wr = .ok W') :
    ∃ ρ', Run B ρ0 H0 n0 w0 sz ρ' ⟨E', r.H, r.n, W'⟩ w' (a.put o.dst v) ∧ ∀ i ∈ W', i < n0 := by
  obtain ⟨ρ', rfl, h1, h2, h3⟩ := hd
  obtain ⟨q1, q2⟩ := addW_ok ha hW
  refine ⟨ρ', ⟨h1, Ext.trans h.stat h3 h.ext h2 (fun i hi hh => (q1 i hi).2 hh), Stat.trans h.stat h3 q1 q2, h.slots.put h.size hp h3.le (fun i hi => h2.agree i (.inl hi)) hb, by rw [put_size]; exact h.size, by rw [put_defers]; exact h.defers⟩, q2⟩
theorem Run.skip (h : Run B ρ0 H0 n0 w0 sz ρ s w a) {E' : Tr} {d : Option Tmp} (hp : putD sz s.E d undef = .ok E') : Run B ρ0 H0 n0 w0 sz ρ ⟨E', s.H, s.n, s.W⟩ w (a.put d undef) := by
  refine ⟨h.sat, h.ext, h.stat, ?_, by rw [put_size]; exact h.size, by rw [put_defers]; exact h.defers⟩
  have := h.slots.put (v := undef) h.size hp (Nat.le_refl _) (fun _ _ => rfl) (by simp [undef, deep, below])
  rwa [ren_undef] at this
theorem wantE_ok {ρ : Lies} {E : Tr} {ops : Array Oper} {b : Bool} (h : ∀ j want t v, o.guard = some (j, want) -> (ops[j]?).bind (·.dst) = some t -> E.get t = .ok v -> a.tmps.getD t undef = ren ρ v) (hw : wantE E ops o = .ok b) : Region.wanted o (yielded ops a.tmps) = b := by
  unfold wantE at hw
  unfold Region.wanted
  cases hg : o.guard with
  | none => rw [hg] at hw; cases hw; rfl
  | some g =>
    obtain ⟨j, want⟩ := g
    rw [hg] at hw
    simp only at hw ⊢
    unfold yielded
    split at hw
    · rename_i hj
      cases hw
      rw [hj]
      rfl
    · rename_i t hj
      replace hw := bind_ok hw; obtain ⟨v, hv, hw⟩ := hw
      rw [hj]
      simp only [Option.bind_some]
      have ht := h j want t v hg hj hv
      by_cases hlt : t < a.tmps.size
      · have e : a.tmps[t]? = some (ren ρ v) := by
          rw [Array.getElem?_eq_getElem hlt]
          congr 1
          rw [<- ht]; simp [Array.getD_eq_getD_getElem?, hlt]
        rw [e]
        split at hw
        · rename_i b'
          cases hw
          rw [ren_bool]
          cases b' <;> cases want <;> rfl
        · rename_i hnb
          cases hw
          have : ∀ b', ren ρ v ≠ .bool b' := fun b' hb' => by
            cases v with
            | bool x => exact hnb x rfl
            | pointer x => cases x <;> simp at hb'
            | slice x _ _ => cases x <;> simp at hb'
            | map x => cases x <;> simp at hb'
            | chan x => cases x <;> simp [ren] at hb'
            | float _ _ => simp [ren] at hb'
            | complex _ _ _ => simp [ren] at hb'
            | _ => simp at hb'
          split
          · rename_i hb'
            simp only [Option.some.injEq] at hb'
            exact absurd hb' (this _)
          · rfl
      · rw [Array.getElem?_eq_none (Nat.le_of_not_lt hlt)]
        have hu : ren ρ v = undef := by rw [<- ht]; simp [Array.getD_eq_getD_getElem?, Array.getElem?_eq_none (Nat.le_of_not_lt hlt)]
        split at hw
        · rw [ren_bool] at hu; cases hu
        · cases hw; rfl
theorem opsE_ok {call : CallE} (hc : CallOK P B call) {ops : Array Oper} {Q : Exit -> Act -> World -> Prop} : ∀ {l : List Oper} {s s' : St} {ρ : Lies} {w : World} {a : Act}, opsE P B call sz n0 ops l s = .ok s' -> Run B ρ0 H0 n0 w0 sz ρ s w a -> (∀ i ∈ s.W, i < n0) ->
    (∀ ρ' w' a', Run B ρ0 H0 n0 w0 sz ρ' s' w' a' -> (∀ i ∈ s'.W, i < n0) -> Q .normal a' w') -> wpList P ops Q l a w
  | [], s, s', ρ, w, a, h, hr, hW, hq => by cases h; exact hq ρ w a hr hW
  | o :: l, s, s', ρ, w, a, h, hr, hW, hq => by
    simp only [opsE] at h
    replace h := bind_ok h; obtain ⟨b, hb, h⟩ := h
    have hwant := wantE_ok (fun _ _ t v _ _ hv => hr.slots.tmp t v hv) hb
    unfold wpList
    rw [hwant]
    cases b with
    | false =>
      simp only at h
      replace h := bind_ok h; obtain ⟨E', hE, h⟩ := h
      rw [if_neg (by simp)]
      exact opsE_ok hc h (hr.skip hE) hW hq
    | true =>
      simp only at h
      replace h := bind_ok h; obtain ⟨r, hrr, h⟩ := h
      replace h := if_ok h; obtain ⟨hv, h⟩ := h
      replace h := bind_ok h; obtain ⟨E', hE, h⟩ := h
      replace h := bind_ok h; obtain ⟨W', hWW, h⟩ := h
      rw [if_pos rfl]
      left
      have := exE_ok (o := o) hc hr.now (say_ok hrr)
      have this' : o.wp P a w (wpList P ops Q l) (fun _ _ _ => False) := Oper.wp_mono (fun a' w' ⟨v, ha, hd⟩ => by
        subst ha
        obtain ⟨ρ', h1, h2⟩ := hr.step hW hd hv hE hWW
        exact opsE_ok hc h h1 h2 hq) this
      unfold Oper.wp at this' ⊢
      generalize (execOp a.eval o).run P w = res at this'
      cases res with
      | ok k w' =>
        cases k <;> simp only [Oper.upon] at this' ⊢ <;> first
          | exact this'
          | exact Calls.mono this' (fun e w'' he => by
              cases e with
              | returned v => exact he
              | panicked c => exact he.elim
              | outgrown => obtain ⟨_, _, hf⟩ := he; exact hf.elim)
      | halt x w' => cases x <;> simp only [Oper.upon] at this' ⊢
end
end V
end Go.Proofs.YtpjpdohdceabpaaGreatDoor

/-
  A region whose order is open: the trace of its operations in the text's order.
-/
namespace Go.Proofs.YtpjpdohdceabpaaGreatDoor
open Go.RowKit
namespace V
set_option linter.unusedVariables false
theorem inD_and {D : Nat -> Bool} {n : Nat} : ∀ {d : Nat} {v : Value}, inD D d v = true -> below n d v = true -> inD (fun i => D i && Nat.ble (i + 1) n) d v = true
  | 0, v, k, _ => by cases k
  | d + 1, v, k, b => by
    have ih : ∀ l : List Value, l.all (inD D d) = true -> l.all (below n d) = true -> l.all (inD (fun i => D i && Nat.ble (i + 1) n) d) = true := fun l hl hb => by
      rw [List.all_eq_true] at hl hb ⊢
      exact fun x hx => inD_and (hl x hx) (hb x hx)
    cases v with
    | pointer a => cases a with
      | none => rfl
      | some a => simp only [inD, below] at *; rw [Bool.and_eq_true]; exact ⟨k, b⟩
    | slice a _ _ => cases a with
      | none => rfl
      | some a => simp only [inD, below] at *; rw [Bool.and_eq_true] at b ⊢; exact ⟨k, b.1⟩
    | map a => cases a with
      | none => rfl
      | some a => simp only [inD, below] at *; rw [Bool.and_eq_true]; exact ⟨k, b⟩
    | chan a => cases a with
      | none => rfl
      | some a => cases k
    | func f x y =>
      simp only [inD, below, Bool.and_eq_true] at *
      exact ⟨ih _ k.1 b.1, ih _ k.2 b.2⟩
    | iface t v => simp only [inD, below] at *; exact inD_and k b
    | agg cs => simp only [inD, below] at *; exact ih _ k b
    | tuple cs => simp only [inD, below] at *; exact ih _ k b
    | _ => rfl
theorem inD_all {n : Nat} : ∀ {d : Nat} {v : Value}, below n d v = true -> inD (fun _ => true) d v = true
  | 0, v, k => by cases k
  | d + 1, v, b => by
    have ih : ∀ l : List Value, l.all (below n d) = true -> l.all (inD (fun _ => true) d) = true := fun l hb => by
      rw [List.all_eq_true] at hb ⊢
      exact fun x hx => inD_all (hb x hx)
    cases v with
    | pointer a => cases a <;> rfl
    | slice a _ _ => cases a <;> rfl
    | map a => cases a <;> rfl
    | chan a => cases a with
      | none => rfl
      | some a => cases b
    | func f x y =>
      simp only [inD, below, Bool.and_eq_true] at *
      exact ⟨ih _ b.1, ih _ b.2⟩
    | iface t v => simp only [inD, below] at *; exact inD_all b
    | agg cs => simp only [inD, below] at *; exact ih _ b
    | tuple cs => simp only [inD, below] at *; exact ih _ b
    | _ => rfl
theorem ren_agreeD {D : Nat -> Bool} {ρ ρ' : Lies} (h : ∀ i, D i = true -> ρ i = ρ' i) : ∀ {d : Nat} {v : Value}, inD D d v = true -> ren ρ v = ren ρ' v
  | 0, v, k => by cases k
  | d + 1, v, k => by
    have ih : ∀ l : Array Value, l.toList.all (inD D d) = true -> l.map (ren ρ) = l.map (ren ρ') := fun l hl => by
      rw [List.all_eq_true] at hl
      exact Array.map_congr_left fun x hx => ren_agreeD h (hl x (by simpa using hx))
    cases v with
    | pointer a => cases a with
      | none => simp
      | some a => simp only [inD] at k; simp [ra, h _ k]
    | slice a _ _ => cases a with
      | none => simp
      | some a => simp only [inD] at k; simp [ra, cpv, h _ k]
    | map a => cases a with
      | none => simp
      | some a => simp only [inD] at k; simp [h _ k]
    | chan a => cases a with
      | none => simp [ren]
      | some a => cases k
    | func f x y => simp only [inD, Bool.and_eq_true] at k; simp [ih _ k.1, ih _ k.2]
    | iface t v => simp only [inD] at k; simp [ren_agreeD h k]
    | agg cs => simp only [inD] at k; simp [ih _ k]
    | tuple cs => simp only [inD] at k; simp [ih _ k]
    | float _ _ => simp [ren]
    | complex _ _ _ => simp [ren]
    | _ => simp
def NamesV (Q : Nat -> Prop) (v : Value) : Prop := ∃ D : Nat -> Bool, inD D deep v = true ∧ ∀ i, D i = true -> Q i
def NamesO (Q : Nat -> Prop) (o : AO) : Prop := ∃ D : Nat -> Bool, inO D o = true ∧ ∀ i, D i = true -> Q i
theorem NamesV.mono {Q Q' : Nat -> Prop} {v : Value} (h : NamesV Q v) (k : ∀ i, Q i -> Q' i) : NamesV Q' v := let ⟨D, h1, h2⟩ := h; ⟨D, h1, fun i hi => k i (h2 i hi)⟩
theorem NamesO.mono {Q Q' : Nat -> Prop} {o : AO} (h : NamesO Q o) (k : ∀ i, Q i -> Q' i) : NamesO Q' o := let ⟨D, h1, h2⟩ := h; ⟨D, h1, fun i hi => k i (h2 i hi)⟩
theorem NamesV.of {D : Nat -> Bool} {n : Nat} {v : Value} (h : inD D deep v = true) (hb : below n deep v = true) : NamesV (fun i => D i = true ∧ i < n) v :=
  ⟨_, inD_and h hb, fun i hi => by rw [Bool.and_eq_true, Nat.ble_eq] at hi; exact hi⟩
theorem NamesO.of {D : Nat -> Bool} {n : Nat} {o : AO} (h : inO D o = true) (hb : belowO n o) : NamesO (fun i => D i = true ∧ i < n) o := by
  refine ⟨fun i => D i && Nat.ble (i + 1) n, ?_, fun i hi => by rw [Bool.and_eq_true, Nat.ble_eq] at hi; exact hi⟩
  cases o with
  | cells cs e es x =>
    simp only [inO, List.all_eq_true] at h ⊢
    exact fun v hv => inD_and (h v hv) (hb v hv)
  | map es c =>
    simp only [inO, List.all_eq_true, Bool.and_eq_true] at h ⊢
    exact fun e he => ⟨inD_and (h e he).1 (hb e he).1, inD_and (h e he).2 (hb e he).2⟩
  | str s p => rfl
  | mit m s x l =>
    cases m with
    | none => rfl
    | some r =>
      simp only [inO] at h ⊢
      rw [Bool.and_eq_true, Nat.ble_eq]
      exact ⟨h, hb r rfl⟩
  | unk => rfl
theorem inO_all {n : Nat} {o : AO} (hb : belowO n o) : inO (fun _ => true) o = true := by
  cases o with
  | cells cs e es x =>
    simp only [inO, List.all_eq_true]
    exact fun v hv => inD_all (hb v hv)
  | map es c =>
    simp only [inO, List.all_eq_true, Bool.and_eq_true]
    exact fun e he => ⟨inD_all (hb e he).1, inD_all (hb e he).2⟩
  | str s p => rfl
  | mit m s x l => cases m <;> rfl
  | unk => rfl
theorem At.agreeD {ρ ρ' : Lies} {Q : Nat -> Prop} {i : Nat} {o : AO} {b : Option Obj} (h : At ρ i o b) (hn : ∀ j, Q j -> ρ' j = ρ j) (hi : ρ' i = ρ i) (ho : NamesO Q o) : At ρ' i o b := by
  obtain ⟨D, hD, hQ⟩ := ho
  have hag : ∀ j, D j = true -> ρ j = ρ' j := fun j hj => (hn j (hQ j hj)).symm
  cases o with
  | cells cs e es x =>
    obtain ⟨c, fr, h1, h2, h3, h4, h5⟩ := h
    simp only [inO, List.all_eq_true] at hD
    refine ⟨c, fr, h1, fun k v hk => ?_, by rw [hi]; exact h3, by rw [hi]; exact h4, h5⟩
    rw [hi, <- ren_agreeD hag (hD v (List.mem_of_getElem? hk))]
    exact h2 k v hk
  | map es c =>
    obtain ⟨h1, h2⟩ := h
    simp only [inO, List.all_eq_true, Bool.and_eq_true] at hD
    refine ⟨by rw [hi]; exact h1, h2.trans ?_⟩
    congr 3
    refine List.map_congr_left fun e he => ?_
    obtain ⟨k1, k2⟩ := hD e he
    simp only [renE]
    rw [ren_agreeD hag k1, ren_agreeD hag k2]
  | str s p => exact ⟨by rw [hi]; exact h.1, h.2⟩
  | mit m s x l =>
    refine ⟨by rw [hi]; exact h.1, h.2.trans ?_⟩
    cases m with
    | none => rfl
    | some r => simp only [inO] at hD; simp [hag r hD]
  | unk => exact h
def obOf : AO -> Obj
  | .cells cs e _ _ => .cells (cs.map (ren still)).toArray e
  | .map es c => .map (es.map (renE still)).toArray c
  | .str s p => .stringIter s p
  | .mit m s se l => .mapIter m s se.toArray l
  | .unk => .cells #[.int .i64 0] 0
def canon (H : AH) (n : Nat) : World := { heap := (Array.range n).map fun i => match lk H i with | some o => obOf o | none => .cells #[] 0, tape := fun _ _ => 0, drawn := 0, os := default, output := #[] }
theorem canon_sat {B n : Nat} [Low B] {H : AH} (hw : WF B (lk H) n) : Sat B still (lk H) (canon H n) := by
  refine ⟨fun i _ => rfl, fun i o hi => ?_, fun i j o p _ _ e => e⟩
  obtain ⟨hlt, hb⟩ := hw.lt i o hi
  have e : (canon H n).heap[(still i).blk]? = some (obOf o) := by
    simp [canon, still, hlt, hi]
  rw [e]
  cases o with
  | cells cs e es x =>
    refine ⟨(cs.map (ren still)).toArray, (0, 0), rfl, fun k v hk => ?_, by simp [still], fun _ => rfl, .inl rfl⟩
    simp [still, hk]
  | map es c => exact ⟨rfl, rfl⟩
  | str s p => exact ⟨rfl, rfl⟩
  | mit m s x l => exact ⟨rfl, by cases m <;> rfl⟩
  | unk => exact ⟨0, 0, (0, 0), rfl⟩
theorem Tr.fin : ∀ (E : Tr), ∃ N, ∀ t, N <= t -> ∀ v, E.get t ≠ .ok v
  | .leaf => ⟨0, fun t _ v h => by cases h⟩
  | .node x l r => by
    obtain ⟨N1, h1⟩ := Tr.fin l
    obtain ⟨N2, h2⟩ := Tr.fin r
    refine ⟨2 * (N1 + N2) + 1, fun t ht v h => ?_⟩
    cases t with
    | zero => omega
    | succ m =>
      rw [Tr.get_succ] at h
      split at h
      · exact h1 (m / 2) (by omega) v h
      · exact h2 (m / 2) (by omega) v h
theorem Tr.act (ρ : Lies) (E : Tr) : ∃ a : Act, ∀ t v, E.get t = .ok v -> a.tmps.getD t undef = ren ρ v := by
  obtain ⟨N, hN⟩ := Tr.fin E
  refine ⟨⟨(Array.range N).map fun t => match E.get t with | .ok v => ren ρ v | .no _ => undef, []⟩, fun t v h => ?_⟩
  have hlt : t < N := by
    rcases Nat.lt_or_ge t N with h1 | h1
    · exact h1
    · exact absurd h (hN t h1 v)
  simp [Array.getD_eq_getD_getElem?, hlt, h]
section
variable {P : Program} {B n : Nat} {H : AH} {E : Tr} {o : Oper} {r : Res} {call : CallE} [Low B]
theorem exE_stat (hc : CallOK P B call) (hw : WF B (lk H) n) (hE : ∀ t v, E.get t = .ok v -> below n deep v = true) (h : exE P B call E o H n = .ok r) : Stat B (lk H) n (lk r.H) r.n r.wr := by
  obtain ⟨a, ha⟩ := Tr.act still E
  obtain ⟨v, w', ρ', _, _, _, hs⟩ := (exE_run (a := a) (w := canon H n) hc ⟨canon_sat hw, hw, ⟨ha, hE⟩⟩ h).some
  exact hs
end
structure Ent where
  s : St
  mask : Nat
  want : Bool
  sees : Sees
  wr : List Nat
  v : Value
  t : St
  vis : AH
  r : Res
def looks : Sees -> Nat -> Prop
  | .nothing, _ => False
  | .one j, i => j = i
  | .all, _ => True
def Free (tr : List Ent) (mask k : Nat) (Q : Ent -> Prop) : Prop := ∀ d ed, d < k -> tr[d]? = some ed -> ed.want = true -> mask.testBit d = false -> Q ed
structure EntOK (P : Program) (B : Nat) (call : CallE) (sz n0 : Nat) (ops : Array Oper) (tr : List Ent) (k : Nat) (e : Ent) (o : Oper) : Prop where
  mask : ∀ j, e.mask.testBit j = true -> ∃ ed ∈ o.after, Region.binds .any ed = true ∧ (ed.on = j ∨ ∃ e', tr[ed.on]? = some e' ∧ e'.mask.testBit j = true)
  want : wantE e.s.E ops o = .ok e.want
  put : putD sz e.s.E o.dst e.v = .ok e.t.E
  idle : e.want = false -> e.v = undef ∧ e.t.H = e.s.H ∧ e.t.n = e.s.n ∧ e.t.W = e.s.W ∧ e.wr = []
  run : e.want = true -> exE P B call e.s.E o e.vis e.s.n = .ok e.r ∧ e.r.v = e.v ∧ e.r.n = e.t.n ∧ e.r.wr = e.wr ∧ below e.t.n deep e.v = true ∧ addW n0 e.s.W e.wr = .ok e.t.W
  sub : e.want = true -> ∀ i p, lk e.vis i = some p -> lk e.s.H i = some p
  full : e.want = true -> ∀ i, lk e.t.H i = match lk e.r.H i with | some p => some p | none => if lk e.vis i = none then lk e.s.H i else none
  hid : e.want = true -> ∀ i p, lk e.vis i = some p -> looks e.sees i ∧ Free tr e.mask k fun ed => ¬ (ed.s.n <= i ∧ i < ed.t.n) ∧ i ∉ ed.wr
  clash : e.want = true -> ∀ i ∈ e.wr, Free tr e.mask k fun ed => ¬ looks ed.sees i
  ids : e.want = true -> (Free tr e.mask k fun ed => ed.t.n <= ed.s.n) ∨ ∃ D : Nat -> Bool, inD D deep e.v = true ∧ (∀ i p, lk e.r.H i = some p -> (e.s.n <= i ∨ i ∈ e.wr) -> inO D p = true) ∧ ∀ i, D i = true -> Free tr e.mask k fun ed => ¬ (ed.s.n <= i ∧ i < ed.t.n)
theorem hides_ok {mask i : Nat} : ∀ {done : List Done}, hides mask i done = false -> ∀ d ∈ done, mask.testBit d.k = false -> ¬ (d.lo <= i ∧ i < d.hi) ∧ i ∉ d.wr
  | [], _, d, hd, _ => by cases hd
  | e :: ds, h, d, hd, hm => by
    simp only [hides, Bool.or_eq_false_iff] at h
    rcases List.mem_cons.1 hd with rfl | hd
    · have h1 := h.1
      rw [hm] at h1
      simp only [Bool.or_eq_false_iff] at h1
      refine ⟨fun ⟨x, y⟩ => ?_, fun hx => ?_⟩
      · have : (Nat.ble d.lo i && Nat.ble (i + 1) d.hi) = true := by rw [Bool.and_eq_true, Nat.ble_eq, Nat.ble_eq]; exact ⟨x, y⟩
        rw [this] at h1; cases h1.1
      · have : d.wr.contains i = true := by simp [hx]
        rw [this] at h1; cases h1.2
    · exact hides_ok h.2 d hd hm
theorem clash_ok {mask : Nat} {wr : List Nat} : ∀ {done : List Done}, clash mask wr done = false -> ∀ d ∈ done, mask.testBit d.k = false -> ∀ i ∈ wr, ¬ looks d.sees i
  | [], _, d, hd, _ => by cases hd
  | e :: ds, h, d, hd, hm => by
    simp only [clash, Bool.or_eq_false_iff] at h
    rcases List.mem_cons.1 hd with rfl | hd
    · have h1 := h.1
      rw [hm] at h1
      simp only at h1
      intro i hi hl
      split at h1
      · rename_i hs; rw [hs] at hl; exact hl
      · rename_i j hs
        rw [hs] at hl
        have : j = i := hl
        subst this
        have : wr.contains j = true := by simp [hi]
        rw [this] at h1; cases h1
      · cases wr with
        | nil => cases hi
        | cons _ _ => simp at h1
    · exact clash_ok h.2 d hd hm
theorem anyOff_ok {mask : Nat} : ∀ {done : List Done}, anyOff mask done = false -> ∀ d ∈ done, mask.testBit d.k = false -> d.hi <= d.lo ∧ d.wr = []
  | [], _, d, hd, _ => by cases hd
  | e :: ds, h, d, hd, hm => by
    simp only [anyOff, Bool.or_eq_false_iff] at h
    rcases List.mem_cons.1 hd with rfl | hd
    · have h1 := h.1
      rw [hm] at h1
      simp only [Bool.or_eq_false_iff] at h1
      refine ⟨?_, by have := h1.2; cases hw : d.wr with | nil => rfl | cons _ _ => rw [hw] at this; simp at this⟩
      have : ¬ (d.lo + 1 <= d.hi) := fun hh => by rw [<- Nat.ble_eq] at hh; rw [hh] at h1; cases h1.1
      omega
    · exact anyOff_ok h.2 d hd hm
theorem offRange_ok {mask : Nat} : ∀ {done : List Done}, offRange mask done = false -> ∀ d ∈ done, mask.testBit d.k = false -> d.hi <= d.lo
  | [], _, d, hd, _ => by cases hd
  | e :: ds, h, d, hd, hm => by
    simp only [offRange] at h
    rcases List.mem_cons.1 hd with rfl | hd
    · rw [hm] at h
      simp only at h
      split at h
      · cases h
      · rename_i hb
        have : ¬ (d.lo + 1 <= d.hi) := fun hh => by rw [<- Nat.ble_eq] at hh; rw [hh] at hb; cases hb
        omega
    · split at h
      · exact offRange_ok h d hd hm
      · split at h
        · cases h
        · exact offRange_ok h d hd hm
theorem okId_ok {mask i : Nat} : ∀ {done : List Done}, okId mask i done = true -> ∀ d ∈ done, mask.testBit d.k = false -> ¬ (d.lo <= i ∧ i < d.hi)
  | [], _, d, hd, _ => by cases hd
  | e :: ds, h, d, hd, hm => by
    simp only [okId] at h
    rcases List.mem_cons.1 hd with rfl | hd
    · rw [hm] at h
      simp only at h
      split at h
      · cases h
      · rename_i hb
        rintro ⟨x, y⟩
        have : (Nat.ble d.lo i && Nat.ble (i + 1) d.hi) = true := by rw [Bool.and_eq_true, Nat.ble_eq, Nat.ble_eq]; exact ⟨x, y⟩
        rw [this] at hb; cases hb
    · split at h
      · exact okId_ok h d hd hm
      · split at h
        · cases h
        · exact okId_ok h d hd hm
theorem restr_ok {keep : Nat -> Bool} : ∀ {H : AH} {p : AH × AH}, restr keep H = .ok p -> ∀ i, lk p.1 i = (if keep i then lk H i else none) ∧ lk p.2 i = (if keep i then none else lk H i)
  | [], p, h, i => by cases h; simp [lk, get]
  | (j, o) :: t, p, h, i => by
    simp only [restr] at h
    replace h := bind_ok h; obtain ⟨q, hq, h⟩ := h
    have ih := restr_ok hq i
    split at h
    · rename_i hk
      cases h
      rw [lk_cons, lk_cons]
      by_cases hij : i = j
      · subst hij
        simp only [if_pos, hk]
        exact ⟨by simp, by have := ih.2; rw [hk] at this; simpa using this⟩
      · rw [if_neg hij, if_neg hij]; exact ih
    · rename_i hk
      cases h
      rw [lk_cons, lk_cons]
      by_cases hij : i = j
      · subst hij
        simp only [if_pos, hk]
        exact ⟨by have := ih.1; rw [hk] at this; simpa using this, by simp⟩
      · rw [if_neg hij, if_neg hij]; exact ih
theorem lk_app {X Y : AH} {j : Nat} : lk (X ++ Y) j = match lk X j with | some o => some o | none => lk Y j := by
  unfold lk
  rw [get_app]
  cases get X j <;> rfl
end V
end Go.Proofs.YtpjpdohdceabpaaGreatDoor

/-
  A region whose order is open: the trace is there.
-/
namespace Go.Proofs.YtpjpdohdceabpaaGreatDoor
open Go.RowKit
namespace V
set_option linter.unusedVariables false
section
variable {P : Program} {B n n0 sz : Nat} {H : AH} {E : Tr} {o : Oper} {call : CallE} {ops : Array Oper} [Low B]
theorem get_mem : ∀ {H : AH} {i : Nat} {o : AO}, get H i = .ok o -> (i, o) ∈ H
  | [], i, o, h => by cases h
  | (j, p) :: t, i, o, h => by
    simp only [get] at h
    split at h
    · rename_i hj
      cases h
      rw [Nat.eq_of_beq_eq_true hj]
      exact List.mem_cons_self ..
    · exact List.mem_cons_of_mem _ (get_mem h)
structure StepOK (P : Program) (B : Nat) (call : CallE) (mask : Nat) (done : List Done) (E : Tr) (o : Oper) (H : AH) (n : Nat) (q : Res) (sees : Sees) (vis : AH) (r : Res) : Prop where
  run : exE P B call E o vis n = .ok r
  v : q.v = r.v
  n' : q.n = r.n
  wr : q.wr = r.wr
  sub : ∀ i p, lk vis i = some p -> lk H i = some p
  full : ∀ i, lk q.H i = match lk r.H i with | some p => some p | none => if lk vis i = none then lk H i else none
  hid : ∀ i p, lk vis i = some p -> looks sees i ∧ ∀ d ∈ done, mask.testBit d.k = false -> ¬ (d.lo <= i ∧ i < d.hi) ∧ i ∉ d.wr
  clash : ∀ i ∈ r.wr, ∀ d ∈ done, mask.testBit d.k = false -> ¬ looks d.sees i
  ids : (∀ d ∈ done, mask.testBit d.k = false -> d.hi <= d.lo) ∨ ∃ D : Nat -> Bool, inD D deep r.v = true ∧ (∀ i p, lk r.H i = some p -> (n <= i ∨ i ∈ r.wr) -> inO D p = true) ∧ ∀ i, D i = true -> ∀ d ∈ done, mask.testBit d.k = false -> ¬ (d.lo <= i ∧ i < d.hi)
theorem idsOK_ok {mask : Nat} {done : List Done} {r : Res} (h : idsOK mask done n r = true) : (∀ d ∈ done, mask.testBit d.k = false -> d.hi <= d.lo) ∨ ∃ D : Nat -> Bool, inD D deep r.v = true ∧ (∀ i p, lk r.H i = some p -> (n <= i ∨ i ∈ r.wr) -> inO D p = true) ∧ ∀ i, D i = true -> ∀ d ∈ done, mask.testBit d.k = false -> ¬ (d.lo <= i ∧ i < d.hi) := by
  unfold idsOK at h
  split at h
  · rename_i ho
    exact .inl (offRange_ok ho)
  · rw [Bool.and_eq_true, List.all_eq_true] at h
    refine .inr ⟨_, h.1, fun i p hi hh => ?_, fun i hi => okId_ok hi⟩
    have := h.2 (i, p) (get_mem (lk_ok.1 hi))
    rw [Bool.or_eq_true, Bool.and_eq_true, Nat.ble_eq] at this
    rcases this with ⟨h1, h2⟩ | h1
    · exfalso
      rcases hh with hh | hh
      · simp only at h1; omega
      · simp [hh] at h2
    · exact h1
theorem empty_wr {l : List Nat} (h : l.isEmpty = true) : l = [] := by cases l with | nil => rfl | cons _ _ => cases h
theorem stepD_ok {mask : Nat} {done : List Done} {q : Res × Sees} (h : stepD P B call mask done E o H n = .ok q) : ∃ vis r, StepOK P B call mask done E o H n q.1 q.2 vis r := by
  unfold stepD at h
  split at h
  · replace h := bind_ok h; obtain ⟨r, hr, h⟩ := h
    replace h := if_ok h; obtain ⟨hw, h⟩ := h
    replace h := if_ok h; obtain ⟨hi, h⟩ := h
    replace h := bind_ok h; obtain ⟨H', hH, h⟩ := h
    cases h
    replace hw := empty_wr hw
    refine ⟨[], r, hr, rfl, rfl, hw.symm, fun i p h => (by cases h), fun i => ?_, fun i p h => (by cases h), fun i hi => (by rw [hw] at hi; cases hi), idsOK_ok hi⟩
    rw [app_ok hH, lk_app]
    rfl
  · rename_i j hseen
    replace h := if_ok h; obtain ⟨hh, h⟩ := h
    replace h := bind_ok h; obtain ⟨ob, hob, h⟩ := h
    replace h := bind_ok h; obtain ⟨r, hr, h⟩ := h
    replace h := if_ok h; obtain ⟨hw, h⟩ := h
    replace h := if_ok h; obtain ⟨hi, h⟩ := h
    replace h := bind_ok h; obtain ⟨X, hX, h⟩ := h
    replace h := bind_ok h; obtain ⟨H', hH, h⟩ := h
    cases h
    replace hw := empty_wr hw
    have hone : ∀ i p, lk [(j, ob)] i = some p -> i = j ∧ p = ob := fun i p hi => by
      rw [lk_cons] at hi
      by_cases hij : i = j
      · rw [if_pos hij] at hi; cases hi; exact ⟨hij, rfl⟩
      · rw [if_neg hij] at hi; cases hi
    refine ⟨[(j, ob)], r, hr, rfl, rfl, hw.symm, fun i p hi => ?_, fun i => ?_, fun i p hi => ?_, fun i hi => (by rw [hw] at hi; cases hi), idsOK_ok hi⟩
    · obtain ⟨rfl, rfl⟩ := hone i p hi
      exact lk_ok.2 hob
    · rw [app_ok hH, lk_app, lk_del hX, lk_cons]
      by_cases hij : i = j
      · rw [if_pos hij, if_pos hij, if_neg (by simp)]; all_goals (cases lk r.H i <;> rfl)
      · rw [if_neg hij, if_neg hij, if_pos (by rfl)]; all_goals (cases lk r.H i <;> rfl)
    · obtain ⟨rfl, rfl⟩ := hone i p hi
      exact ⟨rfl, hides_ok (by simpa using hh)⟩
  · split at h
    · rename_i hany
      replace h := bind_ok h; obtain ⟨r, hr, h⟩ := h
      replace h := if_ok h; obtain ⟨hcl, h⟩ := h
      replace h := if_ok h; obtain ⟨hi, h⟩ := h
      cases h
      refine ⟨H, r, hr, rfl, rfl, rfl, fun i p h => h, fun i => ?_, fun i p hi => ⟨trivial, fun d hd hm => ?_⟩, fun i hi d hd hm => clash_ok (by simpa using hcl) d hd hm i hi, idsOK_ok hi⟩
      · cases h1 : lk r.H i with
        | some p => rfl
        | none =>
          simp only
          split
          · rename_i h2; rw [h2]
          · rfl
      · obtain ⟨h1, h2⟩ := anyOff_ok hany d hd hm
        exact ⟨by omega, by rw [h2]; simp⟩
    · replace h := bind_ok h; obtain ⟨p, hp, h⟩ := h
      replace h := bind_ok h; obtain ⟨r, hr, h⟩ := h
      replace h := if_ok h; obtain ⟨hcl, h⟩ := h
      replace h := if_ok h; obtain ⟨hi, h⟩ := h
      replace h := bind_ok h; obtain ⟨H', hH, h⟩ := h
      cases h
      have hre := fun i => restr_ok hp i
      refine ⟨p.1, r, hr, rfl, rfl, rfl, fun i q hi => ?_, fun i => ?_, fun i q hi => ⟨trivial, fun d hd hm => ?_⟩, fun i hi d hd hm => clash_ok (by simpa using hcl) d hd hm i hi, idsOK_ok hi⟩
      · rw [(hre i).1] at hi
        split at hi
        · exact hi
        · cases hi
      · rw [app_ok hH, lk_app, (hre i).1, (hre i).2]
        cases hides mask i done with
        | true => cases lk r.H i <;> simp
        | false =>
          cases h1 : lk r.H i with
          | some q => rfl
          | none =>
            simp only [Bool.not_false, if_true]
            split
            · rename_i h2; rw [h2]
            · rfl
      · rw [(hre i).1] at hi
        split at hi
        · rename_i hk
          exact hides_ok (by simpa using hk) d hd hm
        · cases hi
theorem maskOf_ok {masks : List Nat} {o : Oper} {j : Nat} (h : (maskOf masks o).testBit j = true) : ∃ ed ∈ o.after, Region.binds .any ed = true ∧ (ed.on = j ∨ (masks.getD (masks.length - 1 - ed.on) 0).testBit j = true) := by
  unfold maskOf at h
  have key : ∀ (l : List Edge) (m : Nat), (l.foldl (fun m e => if Region.binds .any e then m ||| 2 ^ e.on ||| masks.getD (masks.length - 1 - e.on) 0 else m) m).testBit j = true -> m.testBit j = true ∨ ∃ ed ∈ l, Region.binds .any ed = true ∧ (ed.on = j ∨ (masks.getD (masks.length - 1 - ed.on) 0).testBit j = true) := by
    intro l
    induction l with
    | nil => exact fun m h => .inl h
    | cons e l ih =>
      intro m h
      simp only [List.foldl_cons] at h
      rcases ih _ h with h1 | ⟨ed, h1, h2⟩
      · by_cases hb : Region.binds .any e = true
        · rw [if_pos hb, Nat.testBit_or, Nat.testBit_or, Bool.or_eq_true, Bool.or_eq_true] at h1
          rcases h1 with (h1 | h1) | h1
          · exact .inl h1
          · refine .inr ⟨e, List.mem_cons_self .., hb, .inl ?_⟩
            rw [Nat.testBit_two_pow] at h1
            simpa using h1
          · exact .inr ⟨e, List.mem_cons_self .., hb, .inr h1⟩
        · rw [if_neg hb] at h1; exact .inl h1
      · exact .inr ⟨ed, List.mem_cons_of_mem _ h1, h2⟩
  rcases key o.after.toList 0 h with h | ⟨ed, h1, h2⟩
  · simp at h
  · exact ⟨ed, by simpa using h1, h2⟩
def chain : St -> List Ent -> St -> Prop
  | s, [], s' => s = s'
  | s, e :: es, s' => e.s = s ∧ chain e.t es s'
theorem trace : ∀ {l : List Oper} {k : Nat} {masks : List Nat} {done : List Done} {s s' : St} {pre : List Ent}, dropsE P B call sz n0 ops l k masks done s = .ok s' -> pre.length = k -> masks = (pre.map Ent.mask).reverse ->
    (∀ (d : Nat) (e : Ent), pre[d]? = some e -> e.want = true -> (⟨d, e.sees, e.wr, e.s.n, e.t.n⟩ : Done) ∈ done) -> (∀ d ∈ done, ∃ e : Ent, pre[d.k]? = some e ∧ e.want = true ∧ d = ⟨d.k, e.sees, e.wr, e.s.n, e.t.n⟩) ->
    (∀ (j : Nat) (o : Oper), l[j]? = some o -> ∀ ed ∈ o.after, Region.binds .any ed = true -> ed.on < k + j) ->
    ∃ new : List Ent, new.length = l.length ∧ maskL l k masks = ((pre ++ new).map Ent.mask).reverse ∧ chain s new s' ∧
      ∀ suf (j : Nat) (e : Ent) (o : Oper), new[j]? = some e -> l[j]? = some o -> EntOK P B call sz n0 ops (pre ++ new ++ suf) (k + j) e o
  | [], k, masks, done, s, s', pre, h, hk, hm, hd, _, _ => by
    cases h
    exact ⟨[], rfl, by simp [maskL, hm], rfl, fun suf j e o he => by simp at he⟩
  | o :: rest, k, masks, done, s, s', pre, h, hk, hm, hd, hd', hl => by
    simp only [dropsE] at h
    replace h := bind_ok h; obtain ⟨mask, hmask, h⟩ := h
    replace h := bind_ok h; obtain ⟨k', hk', h⟩ := h
    replace h := bind_ok h; obtain ⟨b, hb, h⟩ := h
    replace hmask := fN_ok hmask
    replace hk' := fN_ok hk'
    have hlen : masks.length = k := by rw [hm]; simp [hk]
    have hmok : ∀ tr : List Ent, (∃ suf, tr = pre ++ suf) -> ∀ j, mask.testBit j = true -> ∃ ed ∈ o.after, Region.binds .any ed = true ∧ (ed.on = j ∨ ∃ e', tr[ed.on]? = some e' ∧ e'.mask.testBit j = true) := fun tr ⟨suf, htr⟩ j hj => by
      rw [hmask] at hj
      obtain ⟨ed, h1, h2, h3⟩ := maskOf_ok hj
      refine ⟨ed, h1, h2, h3.imp id fun h3 => ?_⟩
      have hon := hl 0 o (by simp) ed h1 h2
      rw [Nat.add_zero] at hon
      have hlt : ed.on < pre.length := by omega
      refine ⟨pre[ed.on], by rw [htr, List.getElem?_append_left hlt, List.getElem?_eq_getElem hlt], ?_⟩
      have e1 : masks.getD (masks.length - 1 - ed.on) 0 = pre[ed.on].mask := by
        rw [hm, List.getD_eq_getElem?_getD, List.getElem?_reverse (by simp; omega)]
        have : (pre.map Ent.mask).length - 1 - ((pre.map Ent.mask).reverse.length - 1 - ed.on) = ed.on := by simp; omega
        rw [this, List.getElem?_map, List.getElem?_eq_getElem hlt]
        rfl
      rw [e1] at h3
      exact h3
    -- one entry, then the rest
    have go : ∀ (e : Ent) (done' : List Done), e.s = s -> e.mask = mask -> dropsE P B call sz n0 ops rest k' (mask :: masks) done' e.t = .ok s' ->
        (∀ (d : Nat) (e' : Ent), (pre ++ [e])[d]? = some e' -> e'.want = true -> (⟨d, e'.sees, e'.wr, e'.s.n, e'.t.n⟩ : Done) ∈ done') -> (∀ d ∈ done', ∃ e' : Ent, (pre ++ [e])[d.k]? = some e' ∧ e'.want = true ∧ d = ⟨d.k, e'.sees, e'.wr, e'.s.n, e'.t.n⟩) ->
        (∀ suf, EntOK P B call sz n0 ops (pre ++ suf) k e o) ->
        ∃ new : List Ent, new.length = (o :: rest).length ∧ maskL (o :: rest) k masks = ((pre ++ new).map Ent.mask).reverse ∧ chain s new s' ∧
          ∀ suf (j : Nat) (e : Ent) (o' : Oper), new[j]? = some e -> (o :: rest)[j]? = some o' -> EntOK P B call sz n0 ops (pre ++ new ++ suf) (k + j) e o' := by
      intro e done' hes hem hrest hd1 hd2 hok
      obtain ⟨new, n1, n2, n3, n4⟩ := trace (pre := pre ++ [e]) hrest (by simp [hk, hk']) (by simp [hem, hm]) hd1 hd2 (fun j o' ho' ed hed hb => by
        have := hl (j + 1) o' (by simpa using ho') ed hed hb
        omega)
      refine ⟨e :: new, by simp [n1], ?_, ⟨hes, n3⟩, fun suf j e' o' he' ho' => ?_⟩
      · simp only [maskL, <- hmask]
        rw [hk'] at n2
        rw [n2]
        simp
      · cases j with
        | zero =>
          simp at he' ho'
          subst he'; subst ho'
          have := hok (e :: new ++ suf)
          simpa using this
        | succ j =>
          have := n4 suf j e' o' (by simpa using he') (by simpa using ho')
          rw [hk'] at this
          rw [show k + (j + 1) = k + 1 + j by omega]
          simpa using this
    have freeOf : ∀ (suf : List Ent) (Q : Done -> Prop) (R : Ent -> Prop), (∀ d ∈ done, mask.testBit d.k = false -> Q d) -> (∀ (d : Nat) (e : Ent), Q ⟨d, e.sees, e.wr, e.s.n, e.t.n⟩ -> R e) -> Free (pre ++ suf) mask k R := fun suf Q R hQ hR d ed hdk hed hw hm0 => by
      rw [List.getElem?_append_left (by omega)] at hed
      exact hR d ed (hQ _ (hd d ed hed hw) hm0)
    cases b with
    | false =>
      simp only at h
      replace h := bind_ok h; obtain ⟨E', hE, h⟩ := h
      refine go ⟨s, mask, false, .nothing, [], undef, ⟨E', s.H, s.n, s.W⟩, [], ⟨undef, [], 0, []⟩⟩ done rfl rfl h ?_ ?_ ?_
      · intro d e' he' hw
        rcases Nat.lt_or_ge d pre.length with hlt | hge
        · rw [List.getElem?_append_left hlt] at he'
          exact hd d e' he' hw
        · rw [List.getElem?_append_right hge] at he'
          cases hdd : d - pre.length with
          | zero => rw [hdd] at he'; simp at he'; subst he'; cases hw
          | succ _ => rw [hdd] at he'; simp at he'
      · intro d hdm
        obtain ⟨e', h1, h2⟩ := hd' d hdm
        exact ⟨e', by rw [List.getElem?_append_left (List.getElem?_eq_some_iff.1 h1).1]; exact h1, h2⟩
      · intro suf
        exact ⟨hmok _ ⟨suf, rfl⟩, hb, hE, fun _ => ⟨rfl, rfl, rfl, rfl, rfl⟩, fun h => (by cases h), fun h => (by cases h), fun h => (by cases h), fun h => (by cases h), fun h => (by cases h), fun h => (by cases h)⟩
    | true =>
      simp only at h
      replace h := bind_ok h; obtain ⟨q, hq, h⟩ := h
      replace h := if_ok h; obtain ⟨hv, h⟩ := h
      replace h := bind_ok h; obtain ⟨E', hE, h⟩ := h
      replace h := bind_ok h; obtain ⟨W', hW, h⟩ := h
      obtain ⟨vis, r, st⟩ := stepD_ok (say_ok hq)
      refine go ⟨s, mask, true, q.2, q.1.wr, q.1.v, ⟨E', q.1.H, q.1.n, W'⟩, vis, r⟩ _ rfl rfl h ?_ ?_ ?_
      · intro d e' he' hw
        rcases Nat.lt_or_ge d pre.length with hlt | hge
        · rw [List.getElem?_append_left hlt] at he'
          exact List.mem_cons_of_mem _ (hd d e' he' hw)
        · rw [List.getElem?_append_right hge] at he'
          cases hdd : d - pre.length with
          | zero =>
            rw [hdd] at he'; simp at he'; subst he'
            have : d = k := by omega
            subst this
            exact List.mem_cons_self ..
          | succ _ => rw [hdd] at he'; simp at he'
      · intro d hdm
        rcases List.mem_cons.1 hdm with rfl | hdm
        · exact ⟨⟨s, mask, true, q.2, q.1.wr, q.1.v, ⟨E', q.1.H, q.1.n, W'⟩, vis, r⟩, by rw [List.getElem?_append_right (by simp [hk])]; simp [hk], rfl, rfl⟩
        · obtain ⟨e', h1, h2⟩ := hd' d hdm
          exact ⟨e', by rw [List.getElem?_append_left (List.getElem?_eq_some_iff.1 h1).1]; exact h1, h2⟩
      · intro suf
        refine ⟨hmok _ ⟨suf, rfl⟩, hb, hE, fun h => (by cases h), fun _ => ⟨st.run, st.v.symm, st.n'.symm, st.wr.symm, hv, hW⟩, fun _ => st.sub, fun _ => st.full, fun _ i p hi => ⟨(st.hid i p hi).1, ?_⟩, fun _ i hi => ?_, fun _ => ?_⟩
        · exact freeOf suf _ _ (st.hid i p hi).2 (fun d e h => h)
        · exact freeOf suf (fun d => ¬ looks d.sees i) _ (st.clash i (by rw [<- st.wr]; exact hi)) (fun d e h => h)
        · rcases st.ids with h1 | ⟨D, h1, h2, h3⟩
          · exact .inl (freeOf suf (fun d => d.hi <= d.lo) _ h1 (fun d e h => h))
          · refine .inr ⟨D, by rw [st.v]; exact h1, fun i p hi hh => h2 i p hi (by rw [<- st.wr]; exact hh), fun i hi => freeOf suf (fun d => ¬ (d.lo <= i ∧ i < d.hi)) _ (h3 i hi) (fun d e h => h)⟩
end
end V
end Go.Proofs.YtpjpdohdceabpaaGreatDoor

/-
  A region whose order is open: facts of its trace, and memory behind any of its operations.
-/
namespace Go.Proofs.YtpjpdohdceabpaaGreatDoor
open Go.RowKit
namespace V
set_option linter.unusedVariables false
def stAt (tr : List Ent) (s' : St) (k : Nat) : St := match tr[k]? with | some e => e.s | none => s'
theorem chain_at : ∀ {new : List Ent} {s s' : St}, chain s new s' -> stAt new s' 0 = s ∧ ∀ (k : Nat) (e : Ent), new[k]? = some e -> e.s = stAt new s' k ∧ e.t = stAt new s' (k + 1)
  | [], s, s', h => ⟨h.symm, fun k e he => by simp at he⟩
  | x :: es, s, s', h => by
    obtain ⟨h1, h2⟩ := h
    obtain ⟨i1, i2⟩ := chain_at h2
    refine ⟨by simp [stAt, h1], fun k e he => ?_⟩
    cases k with
    | zero =>
      simp at he
      subst he
      refine ⟨by simp [stAt], ?_⟩
      rw [<- i1]
      simp [stAt]
    | succ k =>
      simp at he
      obtain ⟨j1, j2⟩ := i2 k e he
      exact ⟨by rw [j1]; simp [stAt], by rw [j2]; simp [stAt]⟩
structure Tra (P : Program) (B : Nat) (call : CallE) (sz n0 : Nat) (ops : List Oper) (tr : List Ent) (s s' : St) : Prop where
  len : tr.length = ops.length
  chain : chain s tr s'
  ok : ∀ (k : Nat) (e : Ent) (o : Oper), tr[k]? = some e -> ops[k]? = some o -> EntOK P B call sz n0 ops.toArray tr k e o
  stat : okD sz ops = true
  masks : ∀ (k : Nat) (e : Ent), tr[k]? = some e -> (masksOf ops).getD k 0 = e.mask
  call : CallOK P B call
  wf : WF B (lk s.H) s.n
  bel : ∀ t v, s.E.get t = .ok v -> below s.n deep v = true
section
variable {P : Program} {B n0 sz : Nat} {call : CallE} {ops : List Oper} {tr : List Ent} {s s' : St} [Low B]
theorem Tra.at0 (T : Tra P B call sz n0 ops tr s s') : stAt tr s' 0 = s := (chain_at T.chain).1
theorem Tra.at_ (T : Tra P B call sz n0 ops tr s s') {k : Nat} {e : Ent} (h : tr[k]? = some e) : e.s = stAt tr s' k ∧ e.t = stAt tr s' (k + 1) := (chain_at T.chain).2 k e h
theorem Tra.op (T : Tra P B call sz n0 ops tr s s') {k : Nat} {e : Ent} (h : tr[k]? = some e) : ∃ o, ops[k]? = some o := by
  have := (List.getElem?_eq_some_iff.1 h).1
  rw [T.len] at this
  exact ⟨_, List.getElem?_eq_getElem this⟩
theorem Tra.ent (T : Tra P B call sz n0 ops tr s s') {k : Nat} (h : k < tr.length) : ∃ e, tr[k]? = some e := ⟨_, List.getElem?_eq_getElem h⟩
theorem Tra.good (T : Tra P B call sz n0 ops tr s s') : ∀ k, k <= tr.length -> WF B (lk (stAt tr s' k).H) (stAt tr s' k).n ∧ (∀ t v, (stAt tr s' k).E.get t = .ok v -> below (stAt tr s' k).n deep v = true)
  | 0, _ => by rw [T.at0]; exact ⟨T.wf, T.bel⟩
  | k + 1, h => by
    obtain ⟨e, he⟩ := T.ent (show k < tr.length by omega)
    obtain ⟨o, ho⟩ := T.op he
    obtain ⟨w1, w2⟩ := T.good k (by omega)
    obtain ⟨a1, a2⟩ := T.at_ he
    have ok := T.ok k e o he ho
    rw [<- a1] at w1 w2
    rw [<- a2]
    cases hw : e.want with
    | false =>
      obtain ⟨i1, i2, i3, i4, i5⟩ := ok.idle hw
      rw [i2, i3]
      refine ⟨w1, fun t v ht => ?_⟩
      have hp := ok.put
      rw [i1] at hp
      cases hd : o.dst with
      | none =>
        rw [hd] at hp
        have hp := R.ok.inj hp
        rw [<- hp] at ht
        exact w2 t v ht
      | some d =>
        rw [hd] at hp
        simp only [putD] at hp
        rcases Tr.get_put (if_ok hp).2 ht with ⟨_, rfl⟩ | ⟨_, h⟩
        · rfl
        · exact w2 t v h
    | true =>
      obtain ⟨r1, r2, r3, r4, r5, r6⟩ := ok.run hw
      have wv : WF B (lk e.vis) e.s.n := ⟨w1.le, fun i p hi => w1.lt i p (ok.sub hw i p hi)⟩
      have st := exE_stat T.call wv w2 r1
      have hle : e.s.n <= e.t.n := by rw [<- r3]; exact st.le
      refine ⟨⟨Nat.le_trans w1.le hle, fun i p hi => ?_⟩, fun t v ht => ?_⟩
      · rw [ok.full hw i] at hi
        cases hr : lk e.r.H i with
        | some q =>
          rw [hr] at hi
          cases hi
          have := st.wf.lt i p hr
          rw [r3] at this; exact this
        | none =>
          rw [hr] at hi
          simp only at hi
          split at hi
          · have := w1.lt i p hi
            exact ⟨by omega, belowO_up hle this.2⟩
          · cases hi
      · have hp := ok.put
        cases hd : o.dst with
        | none =>
          rw [hd] at hp
          have hp := R.ok.inj hp
          rw [<- hp] at ht
          exact below_up hle (w2 t v ht)
        | some d =>
          rw [hd] at hp
          simp only [putD] at hp
          rcases Tr.get_put (if_ok hp).2 ht with ⟨_, rfl⟩ | ⟨_, h⟩
          · exact r5
          · exact below_up hle (w2 t v h)
theorem Tra.stats (T : Tra P B call sz n0 ops tr s s') {k : Nat} {e : Ent} {o : Oper} (he : tr[k]? = some e) (ho : ops[k]? = some o) (hw : e.want = true) :
    WF B (lk e.vis) e.s.n ∧ Stat B (lk e.vis) e.s.n (lk e.r.H) e.t.n e.wr := by
  have hk := (List.getElem?_eq_some_iff.1 he).1
  obtain ⟨w1, w2⟩ := T.good k (by omega)
  obtain ⟨a1, a2⟩ := T.at_ he
  rw [<- a1] at w1 w2
  have ok := T.ok k e o he ho
  obtain ⟨r1, r2, r3, r4, r5, r6⟩ := ok.run hw
  have wv : WF B (lk e.vis) e.s.n := ⟨w1.le, fun i p hi => w1.lt i p (ok.sub hw i p hi)⟩
  have st := exE_stat T.call wv w2 r1
  rw [r3, r4] at st
  exact ⟨wv, st⟩
theorem Tra.step_le (T : Tra P B call sz n0 ops tr s s') {k : Nat} {e : Ent} (he : tr[k]? = some e) : e.s.n <= e.t.n := by
  obtain ⟨o, ho⟩ := T.op he
  cases hw : e.want with
  | false => rw [((T.ok k e o he ho).idle hw).2.2.1]; exact Nat.le_refl _
  | true => exact (T.stats he ho hw).2.le
theorem Tra.mono (T : Tra P B call sz n0 ops tr s s') {j k : Nat} (h : j <= k) (hk : k <= tr.length) : (stAt tr s' j).n <= (stAt tr s' k).n := by
  induction k with
  | zero => have : j = 0 := by omega
            subst this; exact Nat.le_refl _
  | succ k ih =>
    rcases Nat.eq_or_lt_of_le h with h | h
    · rw [h]; exact Nat.le_refl _
    · obtain ⟨e, he⟩ := T.ent (show k < tr.length by omega)
      have := T.step_le he
      obtain ⟨a1, a2⟩ := T.at_ he
      rw [a1, a2] at this
      exact Nat.le_trans (ih (by omega) (by omega)) this
def touch (tr : List Ent) (k i : Nat) : Prop := ∃ e, tr[k]? = some e ∧ ((e.s.n <= i ∧ i < e.t.n) ∨ i ∈ e.wr)
theorem Tra.touch_want (T : Tra P B call sz n0 ops tr s s') {k i : Nat} {e : Ent} (he : tr[k]? = some e) (h : (e.s.n <= i ∧ i < e.t.n) ∨ i ∈ e.wr) : e.want = true := by
  obtain ⟨o, ho⟩ := T.op he
  cases hw : e.want with
  | true => rfl
  | false =>
    obtain ⟨_, _, i3, _, i5⟩ := (T.ok k e o he ho).idle hw
    rw [i3, i5] at h
    rcases h with h | h
    · omega
    · cases h
theorem Tra.wr_live (T : Tra P B call sz n0 ops tr s s') {k i : Nat} {e : Ent} (he : tr[k]? = some e) (h : i ∈ e.wr) : i < e.s.n ∧ ∃ p, lk e.vis i = some p := by
  obtain ⟨o, ho⟩ := T.op he
  exact (T.stats he ho (T.touch_want he (.inr h))).2.live i h
theorem Tra.stays (T : Tra P B call sz n0 ops tr s s') {k i : Nat} (hk : k < tr.length) (h : ¬ touch tr k i) : lk (stAt tr s' (k + 1)).H i = lk (stAt tr s' k).H i := by
  obtain ⟨e, he⟩ := T.ent hk
  obtain ⟨o, ho⟩ := T.op he
  obtain ⟨a1, a2⟩ := T.at_ he
  have hn : ¬ ((e.s.n <= i ∧ i < e.t.n) ∨ i ∈ e.wr) := fun hh => h ⟨e, he, hh⟩
  have ok := T.ok k e o he ho
  rw [<- a1, <- a2]
  cases hw : e.want with
  | false => rw [(ok.idle hw).2.1]
  | true =>
    obtain ⟨wv, st⟩ := T.stats he ho hw
    obtain ⟨g1, _⟩ := T.good k (by omega)
    rw [<- a1] at g1
    rw [ok.full hw i]
    by_cases hi : i < e.s.n
    · have hkeep := st.keep i hi (fun hh => hn (.inr hh))
      rw [hkeep]
      cases hv : lk e.vis i with
      | some p => exact (ok.sub hw i p hv).symm
      | none => simp
    · have hge : ¬ (i < e.t.n) := fun hh => hn (.inl ⟨by omega, hh⟩)
      have h1 : lk e.r.H i = none := by
        cases hr : lk e.r.H i with
        | none => rfl
        | some p => exact absurd (st.wf.lt i p hr).1 hge
      have h2 : lk e.s.H i = none := by
        cases hr : lk e.s.H i with
        | none => rfl
        | some p => exact absurd (g1.lt i p hr).1 hi
      rw [h1, h2]
      simp
theorem Tra.touched (T : Tra P B call sz n0 ops tr s s') {k i : Nat} {e : Ent} (he : tr[k]? = some e) (h : (e.s.n <= i ∧ i < e.t.n) ∨ i ∈ e.wr) : lk e.t.H i = lk e.r.H i := by
  obtain ⟨o, ho⟩ := T.op he
  have hw := T.touch_want he h
  have ok := T.ok k e o he ho
  have hk := (List.getElem?_eq_some_iff.1 he).1
  obtain ⟨g1, _⟩ := T.good k (by omega)
  rw [<- (T.at_ he).1] at g1
  rw [ok.full hw i]
  cases hr : lk e.r.H i with
  | some p => rfl
  | none =>
    simp only
    split
    · rename_i hv
      rcases h with h | h
      · cases hl : lk e.s.H i with
        | none => rfl
        | some p => have := (g1.lt i p hl).1; omega
      · obtain ⟨_, p, hp⟩ := T.wr_live he h
        rw [hp] at hv; cases hv
    · rfl
open Classical in
noncomputable def mem (tr : List Ent) (s s' : St) (L : Nat -> Bool) : Nat -> Mem
  | 0 => lk s.H
  | k + 1 => fun i => if L k = true ∧ touch tr k i then lk (stAt tr s' (k + 1)).H i else mem tr s s' L k i
theorem Tra.memA (T : Tra P B call sz n0 ops tr s s') {L : Nat -> Bool} {i : Nat} : ∀ k, k <= tr.length -> (∀ d, d < k -> touch tr d i -> L d = true) -> mem tr s s' L k i = lk (stAt tr s' k).H i
  | 0, _, _ => by rw [T.at0]; rfl
  | k + 1, hk, h => by
    simp only [mem]
    by_cases ht : touch tr k i
    · rw [if_pos ⟨h k (by omega) ht, ht⟩]
    · rw [if_neg (fun hh => ht hh.2), T.memA k (by omega) (fun d hd => h d (by omega)), T.stays (by omega) ht]
theorem memB {L : Nat -> Bool} {i j : Nat} : ∀ k, j <= k -> (∀ d, j <= d -> d < k -> touch tr d i -> L d = false) -> mem tr s s' L k i = mem tr s s' L j i
  | 0, h, _ => by have : j = 0 := by omega
                  subst this; rfl
  | k + 1, hk, h => by
    rcases Nat.eq_or_lt_of_le hk with h1 | h1
    · rw [h1]
    · simp only [mem]
      rw [if_neg, memB k (by omega) (fun d h2 h3 => h d h2 (by omega))]
      rintro ⟨h2, h3⟩
      rw [h k (by omega) (by omega) h3] at h2
      cases h2
theorem memC {L L' : Nat -> Bool} {i k : Nat} (hL : ∀ d, d ≠ k -> L' d = L d) (ht : ¬ touch tr k i) : ∀ m, mem tr s s' L' m i = mem tr s s' L m i
  | 0 => rfl
  | m + 1 => by
    simp only [mem]
    rw [memC hL ht m]
    by_cases hm : m = k
    · subst hm
      rw [if_neg (fun h => ht h.2), if_neg (fun h => ht h.2)]
    · rw [hL m hm]
end
end V
end Go.Proofs.YtpjpdohdceabpaaGreatDoor

/-
  A region whose order is open: whatever the order, what the trace says.
-/
namespace Go.Proofs.YtpjpdohdceabpaaGreatDoor
open Go.RowKit
namespace V
set_option linter.unusedVariables false
def Known (tr : List Ent) (L : Nat -> Bool) (i : Nat) : Prop := ∀ d ed, tr[d]? = some ed -> L d = false -> ¬ (ed.s.n <= i ∧ i < ed.t.n)
def upL (L : Nat -> Bool) (k : Nat) : Nat -> Bool := fun d => if d = k then true else L d
structure InvD (P : Program) (B : Nat) (ops : List Oper) (tr : List Ent) (s s' : St) (ρs : Lies) (ws : World) (a0 : Act) (L : Nat -> Bool) (ρ : Lies) (a : Act) (w : World) : Prop where
  sat : Sat B ρ (mem tr s s' L tr.length) w
  ext : Ext ρs s.n ws ρ (mem tr s s' L tr.length) s'.n w ((tr.flatMap Ent.wr).filter fun i => decide (i < s.n))
  names : ∀ i o, mem tr s s' L tr.length i = some o -> NamesO (Known tr L) o
  done : ∀ (k : Nat) (e : Ent) (o : Oper) (d : Tmp), tr[k]? = some e -> L k = true -> ops[k]? = some o -> o.dst = some d -> a.tmps.getD d undef = ren ρ e.v ∧ NamesV (Known tr L) e.v
  old : ∀ t, (∀ (k : Nat) (o : Oper), ops[k]? = some o -> L k = true -> o.dst ≠ some t) -> a.tmps.getD t undef = a0.tmps.getD t undef
  closed : ∀ (k : Nat) (e : Ent), tr[k]? = some e -> L k = true -> ∀ j, e.mask.testBit j = true -> L j = true
  size : a.tmps.size = a0.tmps.size
  defers : a.defers = []
theorem okD_op {sz : Nat} {ops : List Oper} (h : okD sz ops = true) {k : Nat} {o : Oper} (hk : ops[k]? = some o) : okOp ops (masksOf ops) sz k ((masksOf ops).getD k 0) o = true := by
  unfold okD at h
  rw [Bool.and_eq_true, List.all_eq_true] at h
  have hm : (o, k) ∈ ops.zipIdx := by
    rw [List.mem_iff_getElem?]
    exact ⟨k, by rw [List.getElem?_zipIdx, hk]; simp⟩
  exact h.1 (o, k) hm
theorem okD_dst {sz : Nat} {ops : List Oper} (h : okD sz ops = true) {j k : Nat} {o q : Oper} {d : Tmp} (hj : ops[j]? = some o) (hk : ops[k]? = some q) (h1 : o.dst = some d) (h2 : q.dst = some d) : j = k := by
  unfold okD at h
  rw [Bool.and_eq_true, List.all_eq_true, List.all_eq_true] at h
  have hm : ∀ (k : Nat) (o : Oper), ops[k]? = some o -> (o, k) ∈ ops.zipIdx := fun k o hk => by
    rw [List.mem_iff_getElem?]
    exact ⟨k, by rw [List.getElem?_zipIdx, hk]; simp⟩
  have := h.2 (o, j) (hm j o hj)
  rw [List.all_eq_true] at this
  have := this (q, k) (hm k q hk)
  rw [Bool.or_eq_true, Bool.or_eq_true] at this
  rcases this with (h3 | h3) | h3
  · exact Nat.eq_of_beq_eq_true h3
  · simp only at h3; rw [h1] at h3; cases h3
  · simp only at h3; rw [h1, h2] at h3; simp at h3
structure OpFacts (ops : List Oper) (ms : List Nat) (sz k mask : Nat) (o : Oper) : Prop where
  dst : ∀ d, o.dst = some d -> d < sz
  edges : ∀ e ∈ o.after, Region.binds .any e = true -> e.on < k
  guard : ∀ j b, o.guard = some (j, b) -> j < k ∧ mask.testBit j = true
  sel : ∀ cs b, o.op ≠ .select cs b
  reads : ∀ t, .tmp t ∈ o.op.operands -> ∀ (j : Nat) (q : Oper), ops[j]? = some q -> q.dst = some t -> (j < k ∧ mask.testBit j = true) ∨ (k <= j ∧ (ms.getD j 0).testBit k = true)
theorem okOp_ok {ops : List Oper} {ms : List Nat} {sz k mask : Nat} {o : Oper} (h : okOp ops ms sz k mask o = true) : OpFacts ops ms sz k mask o := by
  unfold okOp at h
  simp only [Bool.and_eq_true] at h
  obtain ⟨⟨⟨⟨h1, h2⟩, h3⟩, h4⟩, h5⟩ := h
  refine ⟨fun d hd => ?_, fun e he hb => ?_, fun j b hg => ?_, fun cs b ho => ?_, fun t ht j q hj hq => ?_⟩
  · rw [hd] at h1; simp only [Nat.ble_eq] at h1; exact h1
  · rw [List.all_eq_true] at h2
    have := h2 e (by simpa using he)
    rw [hb] at this
    simp only [Bool.not_true, Bool.false_or, Nat.ble_eq] at this
    exact this
  · rw [hg] at h3
    simp only [Bool.and_eq_true, Nat.ble_eq] at h3
    exact h3
  · rw [ho] at h4; cases h4
  · rw [List.all_eq_true] at h5
    have hrt : t ∈ readsT o := by
      unfold readsT
      rw [List.mem_filterMap]
      exact ⟨.tmp t, by simpa using ht, rfl⟩
    have := h5 t hrt
    rw [List.all_eq_true] at this
    have := this (q, j) (by rw [List.mem_iff_getElem?]; exact ⟨j, by rw [List.getElem?_zipIdx, hj]; simp⟩)
    simp only [hq, Bool.or_eq_true] at this
    rcases this with h6 | h6
    · simp at h6
    · split at h6
      · rename_i hb; rw [Nat.ble_eq] at hb; exact .inl ⟨hb, h6⟩
      · rename_i hb
        refine .inr ⟨?_, h6⟩
        have : ¬ (j + 1 <= k) := fun hh => by rw [<- Nat.ble_eq] at hh; rw [hh] at hb; cases hb
        omega
section
variable {P : Program} {B n0 sz : Nat} {call : CallE} {ops : List Oper} {tr : List Ent} {s s' : St} {ρs ρ : Lies} {ws w : World} {a0 a : Act} {L : Nat -> Bool} [Low B]
theorem Tra.facts (T : Tra P B call sz n0 ops tr s s') {k : Nat} {e : Ent} {o : Oper} (he : tr[k]? = some e) (ho : ops[k]? = some o) : OpFacts ops (masksOf ops) sz k e.mask o := by
  have := okOp_ok (okD_op T.stat ho)
  rw [T.masks k e he] at this
  exact this
theorem Tra.back (T : Tra P B call sz n0 ops tr s s') {t : Tmp} {v : Value} : ∀ k, k <= tr.length -> (stAt tr s' k).E.get t = .ok v ->
    (∃ (p : Nat) (e : Ent) (o : Oper), p < k ∧ tr[p]? = some e ∧ ops[p]? = some o ∧ o.dst = some t ∧ v = e.v) ∨ ((∀ (p : Nat) (o : Oper), p < k -> ops[p]? = some o -> o.dst ≠ some t) ∧ s.E.get t = .ok v)
  | 0, _, h => by rw [T.at0] at h; exact .inr ⟨fun p o hp => by omega, h⟩
  | k + 1, hk, h => by
    obtain ⟨e, he⟩ := T.ent (show k < tr.length by omega)
    obtain ⟨o, ho⟩ := T.op he
    obtain ⟨a1, a2⟩ := T.at_ he
    have hp := (T.ok k e o he ho).put
    rw [<- a2] at h
    have fin : o.dst ≠ some t -> e.s.E.get t = .ok v -> (∃ (p : Nat) (e : Ent) (o : Oper), p < k + 1 ∧ tr[p]? = some e ∧ ops[p]? = some o ∧ o.dst = some t ∧ v = e.v) ∨ ((∀ (p : Nat) (o : Oper), p < k + 1 -> ops[p]? = some o -> o.dst ≠ some t) ∧ s.E.get t = .ok v) := fun hne hg => by
      rw [a1] at hg
      rcases T.back k (by omega) hg with ⟨p, e', o', h1, h2⟩ | ⟨h1, h2⟩
      · exact .inl ⟨p, e', o', by omega, h2⟩
      · refine .inr ⟨fun p q hp hq => ?_, h2⟩
        rcases Nat.eq_or_lt_of_le (show p <= k by omega) with h3 | h3
        · subst h3; rw [ho] at hq; cases hq; exact hne
        · exact h1 p q h3 hq
    cases hd : o.dst with
    | none =>
      rw [hd] at hp
      have hp := R.ok.inj hp
      rw [<- hp] at h
      exact fin (by rw [hd]; simp) h
    | some d =>
      rw [hd] at hp
      simp only [putD] at hp
      rcases Tr.get_put (if_ok hp).2 h with ⟨h1, h2⟩ | ⟨h1, h2⟩
      · subst h1
        exact .inl ⟨k, e, o, by omega, he, ho, hd, h2⟩
      · exact fin (by rw [hd]; intro hh; cases hh; exact h1 rfl) h2
theorem Tr.act' (ρ : Lies) (E : Tr) (a : Act) : ∃ b : Act, (∀ t v, E.get t = .ok v -> b.tmps.getD t undef = ren ρ v) ∧ ∀ t, (∀ v, E.get t ≠ .ok v) -> b.tmps.getD t undef = a.tmps.getD t undef := by
  obtain ⟨N, hN⟩ := Tr.fin E
  refine ⟨⟨(Array.range (N + a.tmps.size)).map fun t => match E.get t with | .ok v => ren ρ v | .no _ => a.tmps.getD t undef, []⟩, fun t v h => ?_, fun t h => ?_⟩
  · have hlt : t < N := by
      rcases Nat.lt_or_ge t N with h1 | h1
      · exact h1
      · exact absurd h (hN t h1 v)
    have : t < N + a.tmps.size := by omega
    simp [Array.getD_eq_getD_getElem?, this, h]
  · by_cases ht : t < N + a.tmps.size
    · cases hg : E.get t with
      | ok v => exact absurd hg (h v)
      | no _ => simp [Array.getD_eq_getD_getElem?, ht, hg]
    · simp [Array.getD_eq_getD_getElem?, ht, show ¬ t < a.tmps.size by omega]
theorem InvD.seen (I : InvD P B ops tr s s' ρs ws a0 L ρ a w) (T : Tra P B call sz n0 ops tr s s') {k : Nat} {e : Ent} (he : tr[k]? = some e) (hw : e.want = true) (hk : L k = false) (hm : ∀ j, e.mask.testBit j = true -> L j = true) {i : Nat} {p : AO} (hi : lk e.vis i = some p) :
    mem tr s s' L tr.length i = some p := by
  obtain ⟨o, ho⟩ := T.op he
  have ok := T.ok k e o he ho
  have hlt := (List.getElem?_eq_some_iff.1 he).1
  obtain ⟨hl, hf⟩ := ok.hid hw i p hi
  have hs := ok.sub hw i p hi
  rw [(T.at_ he).1] at hs
  obtain ⟨g1, _⟩ := T.good k (by omega)
  have hin := (g1.lt i p hs).1
  have hB : ∀ d, k <= d -> d < tr.length -> touch tr d i -> L d = false := by
    rintro d hd hd2 ⟨ed, hed, ht⟩
    cases hLd : L d with
    | false => rfl
    | true =>
      exfalso
      have hdk : d ≠ k := fun hh => by rw [hh, hk] at hLd; cases hLd
      have hmono := T.mono (show k <= d by omega) (show d <= tr.length by omega)
      rcases ht with ht | ht
      · rw [(T.at_ hed).1] at ht; omega
      · obtain ⟨od, hod⟩ := T.op hed
        have hwd := T.touch_want hed (.inr ht)
        have hb : ed.mask.testBit k = false := by
          cases hh : ed.mask.testBit k with
          | false => rfl
          | true => rw [I.closed d ed hed hLd k hh] at hk; cases hk
        exact (T.ok d ed od hed hod).clash hwd i ht k e (by omega) he hw hb hl
  have hA : ∀ d, d < k -> touch tr d i -> L d = true := by
    rintro d hd ⟨ed, hed, ht⟩
    cases hLd : L d with
    | true => rfl
    | false =>
      exfalso
      have hb : e.mask.testBit d = false := by
        cases hh : e.mask.testBit d with
        | false => rfl
        | true => rw [hm d hh] at hLd; cases hLd
      obtain ⟨h1, h2⟩ := hf d ed hd hed (T.touch_want hed ht) hb
      rcases ht with ht | ht
      · exact h1 ht
      · exact h2 ht
  rw [memB tr.length (by omega) hB, T.memA k (by omega) hA, hs]
theorem InvD.slot (I : InvD P B ops tr s s' ρs ws a0 L ρ a w) (T : Tra P B call sz n0 ops tr s s') (hs : Slots ρs s.n s.E a0) {k : Nat} (hk : k <= tr.length) {t : Tmp} {v : Value} (h : (stAt tr s' k).E.get t = .ok v)
    (hj : ∀ (j : Nat) (q : Oper), ops[j]? = some q -> q.dst = some t -> (j < k ∧ L j = true) ∨ (k <= j ∧ L j = false)) : a.tmps.getD t undef = ren ρ v := by
  rcases T.back k hk h with ⟨p, e, o, h1, h2, h3, h4, h5⟩ | ⟨h1, h2⟩
  · rcases hj p o h3 h4 with ⟨_, h6⟩ | ⟨h6, _⟩
    · rw [h5]; exact (I.done p e o t h2 h6 h3 h4).1
    · omega
  · rw [I.old t fun j q hq hL hd => ?_, hs.tmp t v h2]
    · exact (ren_agree (n := s.n) (fun i hi => I.ext.agree i (.inl hi)) (hs.bel t v h2)).symm
    · rcases hj j q hq hd with ⟨h6, _⟩ | ⟨_, h6⟩
      · exact h1 j q h6 hq hd
      · rw [hL] at h6; cases h6
end
end V
end Go.Proofs.YtpjpdohdceabpaaGreatDoor

/-
  A region whose order is open: one operation comes up.
-/
namespace Go.Proofs.YtpjpdohdceabpaaGreatDoor
open Go.RowKit
namespace V
set_option linter.unusedVariables false
section
variable {P : Program} {B n0 sz : Nat} {call : CallE} {ops : List Oper} {tr : List Ent} {s s' : St} {ρs ρ : Lies} {ws w : World} {a0 a : Act} {L : Nat -> Bool} [Low B]
theorem upL_same {k : Nat} : upL L k k = true := by simp [upL]
theorem upL_other {k d : Nat} (h : d ≠ k) : upL L k d = L d := by simp [upL, h]
theorem upL_up {k d : Nat} (h : L d = true) : upL L k d = true := by unfold upL; split <;> simp [h]
theorem upL_ok {k d : Nat} (h : upL L k d = true) : d = k ∨ L d = true := by
  unfold upL at h
  split at h
  · rename_i e; exact .inl e
  · exact .inr h
theorem upL_no {k d : Nat} (h : upL L k d = false) : d ≠ k ∧ L d = false := by
  unfold upL at h
  split at h
  · cases h
  · rename_i e; exact ⟨e, h⟩
theorem Known.up {k i : Nat} (h : Known tr L i) : Known tr (upL L k) i := fun d ed hd hL => h d ed hd (upL_no hL).2
theorem InvD.reads (I : InvD P B ops tr s s' ρs ws a0 L ρ a w) (T : Tra P B call sz n0 ops tr s s') {k : Nat} {e : Ent} {o : Oper} (he : tr[k]? = some e) (ho : ops[k]? = some o) (hk : L k = false) (hm : ∀ j, e.mask.testBit j = true -> L j = true)
    {t : Tmp} (ht : ∀ (j : Nat) (q : Oper), ops[j]? = some q -> q.dst = some t -> (j < k ∧ e.mask.testBit j = true) ∨ (k <= j ∧ ((masksOf ops).getD j 0).testBit k = true)) :
    ∀ (j : Nat) (q : Oper), ops[j]? = some q -> q.dst = some t -> (j < k ∧ L j = true) ∨ (k <= j ∧ L j = false) := by
  intro j q hq hd
  rcases ht j q hq hd with ⟨h1, h2⟩ | ⟨h1, h2⟩
  · exact .inl ⟨h1, hm j h2⟩
  · refine .inr ⟨h1, ?_⟩
    have hj : j < tr.length := by rw [T.len]; exact (List.getElem?_eq_some_iff.1 hq).1
    obtain ⟨ej, hej⟩ := T.ent hj
    rw [T.masks j ej hej] at h2
    cases hL : L j with
    | false => rfl
    | true => rw [I.closed j ej hej hL k h2] at hk; cases hk
theorem InvD.step (I : InvD P B ops tr s s' ρs ws a0 L ρ a w) (T : Tra P B call sz n0 ops tr s s') (hs : Slots ρs s.n s.E a0) (hsz : a0.tmps.size = sz) {k : Nat} {e : Ent} {o : Oper} (he : tr[k]? = some e) (ho : ops[k]? = some o) (hk : L k = false) (hm : ∀ j, e.mask.testBit j = true -> L j = true) (hw : e.want = true) :
    RunOK P (execOp a.eval o) w fun v w' => ∃ ρ', InvD P B ops tr s s' ρs ws a0 (upL L k) ρ' (a.put o.dst v) w' := by
  have ok := T.ok k e o he ho
  have fx := T.facts he ho
  have hlt := (List.getElem?_eq_some_iff.1 he).1
  obtain ⟨a1, a2⟩ := T.at_ he
  obtain ⟨g1, g2⟩ := T.good k (by omega)
  have hslot : ∀ t v, (stAt tr s' k).E.get t = .ok v -> (∀ (j : Nat) (q : Oper), ops[j]? = some q -> q.dst = some t -> (j < k ∧ L j = true) ∨ (k <= j ∧ L j = false)) -> a.tmps.getD t undef = ren ρ v := fun t v h hj => I.slot T hs (by omega) h hj
  rw [<- a1] at g1 g2 hslot
  obtain ⟨wv, st⟩ := T.stats he ho hw
  obtain ⟨r1, r2, r3, r4, r5, r6⟩ := ok.run hw
  have seen : ∀ i p, lk e.vis i = some p -> mem tr s s' L tr.length i = some p := fun i p hi => I.seen T he hw hk hm hi
  -- the frame as the text's order has it
  obtain ⟨b, b1, b2⟩ := Tr.act' ρ e.s.E a
  have now : Now B ρ e.vis e.s.n w e.s.E b := ⟨I.sat.weak seen, wv, ⟨b1, g2⟩⟩
  have hcongr : execOp a.eval o = execOp b.eval o := execOp_congr o fx.sel fun x hx => by
    cases x with
    | tmp t =>
      show a.tmps.getD t undef = b.tmps.getD t undef
      cases hg : e.s.E.get t with
      | ok v => rw [b1 t v hg]; exact hslot t v hg (I.reads T he ho hk hm (fx.reads t hx))
      | no _ => exact (b2 t (fun v h => by rw [hg] at h; cases h)).symm
    | _ => rfl
  rw [hcongr]
  refine (exE_run T.call now r1).mono fun v w' hd => ?_
  obtain ⟨ρ', rfl, h1, h2, h3⟩ := hd
  rw [r3, r4] at h2 h3
  refine ⟨ρ', ?_⟩
  have hle := T.step_le he
  have hn0 : s.n <= e.s.n := by rw [a1, <- T.at0]; exact T.mono (by omega) (by omega)
  have hn1 : e.t.n <= s'.n := by
    have := T.mono (show k + 1 <= tr.length by omega) (Nat.le_refl _)
    rw [a2]
    have e2 : stAt tr s' tr.length = s' := by simp [stAt]
    rwa [e2] at this
  have hkn : ∀ i, Known tr L i -> ρ' i = ρ i := fun i hi => h2.agree i (by
    have := hi k e he hk
    omega)
  have wrL : ∀ i ∈ e.wr, i < e.s.n ∧ ∃ p, mem tr s s' L tr.length i = some p := fun i hi => by
    obtain ⟨x, p, hp⟩ := T.wr_live he hi
    exact ⟨x, p, seen i p hp⟩
  -- memory behind it
  have memT : ∀ i, ((e.s.n <= i ∧ i < e.t.n) ∨ i ∈ e.wr) -> mem tr s s' (upL L k) tr.length i = lk e.r.H i := fun i ht => by
    have hB : ∀ d, k + 1 <= d -> d < tr.length -> touch tr d i -> upL L k d = false := by
      rintro d hd hd2 ⟨ed, hed, htd⟩
      cases hLd : upL L k d with
      | false => rfl
      | true =>
        exfalso
        have hLd' : L d = true := by
          rcases upL_ok hLd with h | h
          · omega
          · exact h
        have hmono := T.mono (show k + 1 <= d by omega) (show d <= tr.length by omega)
        rw [<- a2, <- (T.at_ hed).1] at hmono
        have hb : ed.mask.testBit k = false := by
          cases hh : ed.mask.testBit k with
          | false => rfl
          | true => rw [I.closed d ed hed hLd' k hh] at hk; cases hk
        obtain ⟨od, hod⟩ := T.op hed
        rcases htd with htd | htd
        · rcases ht with ht | ht
          · omega
          · have := (wrL i ht).1; omega
        · have hwd := T.touch_want hed (.inr htd)
          obtain ⟨_, p, hp⟩ := T.wr_live hed htd
          obtain ⟨q1, q2⟩ := ((T.ok d ed od hed hod).hid hwd i p hp).2 k e (by omega) he hw hb
          rcases ht with ht | ht
          · exact q1 ht
          · exact q2 ht
    rw [memB tr.length (by omega) hB]
    simp only [mem]
    rw [if_pos ⟨upL_same, e, he, ht⟩, <- a2]
    exact T.touched he ht
  have memU : ∀ i, ¬ ((e.s.n <= i ∧ i < e.t.n) ∨ i ∈ e.wr) -> mem tr s s' (upL L k) tr.length i = mem tr s s' L tr.length i := fun i ht =>
    memC (fun d hd => upL_other hd) (by rintro ⟨e', he', ht'⟩; rw [he] at he'; cases he'; exact ht ht') tr.length
  have agU : ∀ i, ¬ ((e.s.n <= i ∧ i < e.t.n) ∨ i ∈ e.wr) -> ρ' i = ρ i := fun i ht => h2.agree i (by omega)
  -- where a touched block lies, if it was there
  have blkT : ∀ i p, lk e.r.H i = some p -> ((e.s.n <= i ∧ i < e.t.n) ∨ i ∈ e.wr) -> w.heap.size <= (ρ' i).blk ∨ ∃ j ∈ e.wr, (ρ' i).blk = (ρ j).blk := fun i p hp ht => by
    rcases ht with ht | ht
    · exact h2.fresh i p hp ht.1
    · right
      exact ⟨i, ht, by rw [h2.agree i (.inl (wrL i ht).1)]⟩
  have namesT : ∀ {Q : (Nat -> Prop) -> Prop}, (∀ D : Nat -> Bool, (inD D deep e.v = true ∧ ∀ i p, lk e.r.H i = some p -> (e.s.n <= i ∨ i ∈ e.wr) -> inO D p = true) -> (∀ i, D i = true -> i < e.t.n -> Known tr (upL L k) i) -> Q (Known tr (upL L k))) -> Q (Known tr (upL L k)) := fun {Q} hQ => by
    have know : ∀ i, i < e.t.n -> (∀ d ed, d < k -> tr[d]? = some ed -> ed.want = true -> e.mask.testBit d = false -> ¬ (ed.s.n <= i ∧ i < ed.t.n)) -> Known tr (upL L k) i := fun i hi hf d ed hd hL => by
      obtain ⟨hdk, hLd⟩ := upL_no hL
      rcases Nat.lt_or_ge d k with h | h
      · rintro ⟨x, y⟩
        have hwd := T.touch_want hd (.inl ⟨x, y⟩)
        have hb : e.mask.testBit d = false := by
          cases hh : e.mask.testBit d with
          | false => rfl
          | true => rw [hm d hh] at hLd; cases hLd
        exact hf d ed h hd hwd hb ⟨x, y⟩
      · have hdl := (List.getElem?_eq_some_iff.1 hd).1
        have hmono := T.mono (show k + 1 <= d by omega) (show d <= tr.length by omega)
        rw [<- a2, <- (T.at_ hd).1] at hmono
        omega
    rcases ok.ids hw with hf | ⟨D, d1, d2, d3⟩
    · refine hQ (fun _ => true) ⟨inD_all r5, fun i p hp _ => inO_all (st.wf.lt i p hp).2⟩ fun i _ hi => know i hi fun d ed hd hed hwd hb => ?_
      have := hf d ed hd hed hwd hb
      omega
    · exact hQ D ⟨d1, d2⟩ fun i hD hi => know i hi (d3 i hD)
  have namesV : NamesV (Known tr (upL L k)) e.v := namesT (Q := fun K => NamesV K e.v) fun D hD hK => (NamesV.of hD.1 r5).mono fun i hi => hK i hi.1 hi.2
  refine ⟨⟨h1.fix, fun i p hi => ?_, fun i j p q hi hj hij => ?_⟩, ⟨fun i hi => ?_, h2.os.trans I.ext.os, h2.tape.trans I.ext.tape, h2.output.trans I.ext.output, Nat.le_trans I.ext.size h2.size, fun x hx hn => ?_, fun i p hi hn => ?_⟩, fun i p hi => ?_, fun j ej oj d hej hL hoj hdj => ?_, fun t ht => ?_, fun j ej hej hL x hx => ?_, by rw [put_size]; exact I.size, by rw [put_defers]; exact I.defers⟩
  · by_cases ht : (e.s.n <= i ∧ i < e.t.n) ∨ i ∈ e.wr
    · rw [memT i ht] at hi; exact h1.at_ i p hi
    · rw [memU i ht] at hi
      have hat := I.sat.at_ i p hi
      rw [agU i ht]
      have hfr : w'.heap[(ρ i).blk]? = w.heap[(ρ i).blk]? := h2.frame _ hat.lt fun j hj hjb => by
        obtain ⟨_, q, hq⟩ := wrL j hj
        have := I.sat.inj j i q p hq hi hjb
        subst this
        exact ht (.inr hj)
      rw [hfr]
      exact hat.agreeD hkn (agU i ht) (I.names i p hi)
  · by_cases ht : (e.s.n <= i ∧ i < e.t.n) ∨ i ∈ e.wr
    · rw [memT i ht] at hi
      by_cases hu : (e.s.n <= j ∧ j < e.t.n) ∨ j ∈ e.wr
      · rw [memT j hu] at hj; exact h1.inj i j p q hi hj hij
      · rw [memU j hu] at hj
        exfalso
        rw [agU j hu] at hij
        have hlj := (I.sat.at_ j q hj).lt
        rcases blkT i p hi ht with h | ⟨x, hx, h⟩
        · omega
        · obtain ⟨_, qx, hqx⟩ := wrL x hx
          have := I.sat.inj x j qx q hqx hj (by rw [<- h]; exact hij)
          subst this
          exact hu (.inr hx)
    · rw [memU i ht] at hi
      by_cases hu : (e.s.n <= j ∧ j < e.t.n) ∨ j ∈ e.wr
      · rw [memT j hu] at hj
        exfalso
        rw [agU i ht] at hij
        have hli := (I.sat.at_ i p hi).lt
        rcases blkT j q hj hu with h | ⟨x, hx, h⟩
        · omega
        · obtain ⟨_, qx, hqx⟩ := wrL x hx
          have := I.sat.inj x i qx p hqx hi (by rw [<- h]; exact hij.symm)
          subst this
          exact ht (.inr hx)
      · rw [memU j hu] at hj
        rw [agU i ht, agU j hu] at hij
        exact I.sat.inj i j p q hi hj hij
  · rw [h2.agree i (by omega)]; exact I.ext.agree i hi
  · rw [h2.frame x (Nat.lt_of_lt_of_le hx I.ext.size) fun j hj hjx => ?_, I.ext.frame x hx hn]
    obtain ⟨_, q, hq⟩ := wrL j hj
    by_cases hjs : j < s.n
    · refine hn j ?_ (by rw [<- I.ext.agree j (.inl hjs)]; exact hjx)
      rw [List.mem_filter]
      exact ⟨List.mem_flatMap.2 ⟨e, List.mem_of_getElem? he, hj⟩, by simpa using hjs⟩
    · rcases I.ext.fresh j q hq (by omega) with h | ⟨y, hy, h⟩
      · omega
      · exact hn y hy (h.symm.trans hjx)
  · have later : ∀ j q, mem tr s s' L tr.length j = some q -> s.n <= j ∨ j ∈ e.wr -> ws.heap.size <= (ρ j).blk ∨ ∃ y ∈ (tr.flatMap Ent.wr).filter (fun i => decide (i < s.n)), (ρ j).blk = (ρs y).blk := fun j q hq hj => by
      by_cases hjs : j < s.n
      · rcases hj with hj | hj
        · omega
        · right
          refine ⟨j, ?_, by rw [I.ext.agree j (.inl hjs)]⟩
          rw [List.mem_filter]
          exact ⟨List.mem_flatMap.2 ⟨e, List.mem_of_getElem? he, hj⟩, by simpa using hjs⟩
      · exact I.ext.fresh j q hq (by omega)
    by_cases ht : (e.s.n <= i ∧ i < e.t.n) ∨ i ∈ e.wr
    · rw [memT i ht] at hi
      rcases blkT i p hi ht with h | ⟨x, hx, h⟩
      · exact .inl (Nat.le_trans I.ext.size h)
      · obtain ⟨_, qx, hqx⟩ := wrL x hx
        rw [h]
        exact later x qx hqx (.inr hx)
    · rw [memU i ht] at hi
      rw [agU i ht]
      exact later i p hi (.inl hn)
  · by_cases ht : (e.s.n <= i ∧ i < e.t.n) ∨ i ∈ e.wr
    · rw [memT i ht] at hi
      refine namesT (Q := fun K => NamesO K p) fun D hD hK => (NamesO.of (hD.2 i p hi (ht.imp (fun h => h.1) id)) (st.wf.lt i p hi).2).mono fun j hj => hK j hj.1 hj.2
    · rw [memU i ht] at hi
      exact (I.names i p hi).mono fun j hj => hj.up
  · by_cases hjk : j = k
    · subst hjk
      rw [he] at hej; cases hej
      rw [ho] at hoj; cases hoj
      refine ⟨?_, namesV⟩
      rw [getD_put', if_pos ⟨hdj, by rw [I.size, hsz]; exact fx.dst d hdj⟩, r2]
    · have hLj := (upL_ok hL).resolve_left hjk
      obtain ⟨q1, q2⟩ := I.done j ej oj d hej hLj hoj hdj
      refine ⟨?_, q2.mono fun i hi => hi.up⟩
      rw [getD_put', if_neg, q1]
      · obtain ⟨D, hD, hK⟩ := q2
        exact ren_agreeD (fun i hi => (hkn i (hK i hi)).symm) hD
      · rintro ⟨hd', _⟩
        exact hjk (okD_dst T.stat hoj ho hdj hd')
  · rw [getD_put', if_neg (fun h => ht k o ho upL_same h.1)]
    exact I.old t fun j q hq hL => ht j q hq (upL_up hL)
  · by_cases hjk : j = k
    · subst hjk
      rw [he] at hej; cases hej
      exact upL_up (hm x hx)
    · exact upL_up (I.closed j ej hej ((upL_ok hL).resolve_left hjk) x hx)
theorem InvD.idle (I : InvD P B ops tr s s' ρs ws a0 L ρ a w) (T : Tra P B call sz n0 ops tr s s') (hsz : a0.tmps.size = sz) {k : Nat} {e : Ent} {o : Oper} (he : tr[k]? = some e) (ho : ops[k]? = some o) (hm : ∀ j, e.mask.testBit j = true -> L j = true) (hw : e.want = false) :
    InvD P B ops tr s s' ρs ws a0 (upL L k) ρ (a.put o.dst undef) w := by
  have ok := T.ok k e o he ho
  have fx := T.facts he ho
  obtain ⟨i1, i2, i3, i4, i5⟩ := ok.idle hw
  have hmem : mem tr s s' (upL L k) tr.length = mem tr s s' L tr.length := funext fun i =>
    memC (fun d hd => upL_other hd) (by
      rintro ⟨e', he', ht'⟩
      rw [he] at he'; cases he'
      have := T.touch_want he ht'
      rw [hw] at this; cases this) tr.length
  refine ⟨by rw [hmem]; exact I.sat, by rw [hmem]; exact I.ext, fun i p hi => ?_, fun j ej oj d hej hL hoj hdj => ?_, fun t ht => ?_, fun j ej hej hL x hx => ?_, by rw [put_size]; exact I.size, by rw [put_defers]; exact I.defers⟩
  · rw [hmem] at hi
    exact (I.names i p hi).mono fun j hj => hj.up
  · by_cases hjk : j = k
    · subst hjk
      rw [he] at hej; cases hej
      rw [ho] at hoj; cases hoj
      rw [getD_put', if_pos ⟨hdj, by rw [I.size, hsz]; exact fx.dst d hdj⟩, i1, ren_undef]
      exact ⟨rfl, ⟨fun _ => false, rfl, fun i h => by cases h⟩⟩
    · have hLj := (upL_ok hL).resolve_left hjk
      obtain ⟨q1, q2⟩ := I.done j ej oj d hej hLj hoj hdj
      refine ⟨?_, q2.mono fun i hi => hi.up⟩
      rw [getD_put', if_neg, q1]
      rintro ⟨hd', _⟩
      exact hjk (okD_dst T.stat hoj ho hdj hd')
  · rw [getD_put', if_neg (fun h => ht k o ho upL_same h.1)]
    exact I.old t fun j q hq hL => ht j q hq (upL_up hL)
  · by_cases hjk : j = k
    · subst hjk
      rw [he] at hej; cases hej
      exact upL_up (hm x hx)
    · exact upL_up (I.closed j ej hej ((upL_ok hL).resolve_left hjk) x hx)
end
end V
end Go.Proofs.YtpjpdohdceabpaaGreatDoor

/-
  Regions, code, calls: what is reckoned is what is run.
-/
namespace Go.Proofs.YtpjpdohdceabpaaGreatDoor
open Go.RowKit
namespace V
set_option linter.unusedVariables false
section
variable {P : Program} {B n0 sz : Nat} {call : CallE} {ops : List Oper} {tr : List Ent} {s s' : St} {ρ0 ρs ρ : Lies} {H0 : AH} {w0 ws w : World} {a0 a : Act} {L : Nat -> Bool} {Q : Exit -> Act -> World -> Prop} [Low B]
theorem InvD.congr {L' : Nat -> Bool} (h : ∀ d, L d = L' d) (I : InvD P B ops tr s s' ρs ws a0 L ρ a w) : InvD P B ops tr s s' ρs ws a0 L' ρ a w := by
  have : L = L' := funext h
  rw [<- this]; exact I
theorem wp_noQ {o : Oper} {K : Act -> World -> Prop} (h : o.wp P a w K (fun _ _ _ => False)) : o.wp P a w K Q := Oper.wp_noQ h
theorem InvD.start (T : Tra P B call sz n0 ops tr s s') (hr : Run B ρ0 H0 n0 w0 sz ρ s w a) (d : Nat) : InvD P B ops tr s s' ρ w a (fun _ => false) ρ a { w with drawn := d } := by
  have hmem : mem tr s s' (fun _ => false) tr.length = lk s.H := funext fun i => by
    have : ∀ k, mem tr s s' (fun _ => false) k i = lk s.H i := fun k => by
      induction k with
      | zero => rfl
      | succ k ih => simp only [mem]; rw [if_neg (by simp)]; exact ih
    exact this _
  refine ⟨by rw [hmem]; exact ⟨hr.sat.fix, hr.sat.at_, hr.sat.inj⟩, by rw [hmem]; exact ⟨fun _ _ => rfl, rfl, rfl, rfl, Nat.le_refl _, fun _ _ _ => rfl, fun i o hi hn => absurd (T.wf.lt i o hi).1 (by omega)⟩, fun i o hi => ?_, fun k e o d _ h => (by cases h), fun t _ => rfl, fun k e _ h => (by cases h), rfl, hr.defers⟩
  rw [hmem] at hi
  refine (NamesO.of (inO_all (T.wf.lt i o hi).2) (T.wf.lt i o hi).2).mono fun j hj d ed hd _ => ?_
  have hdl := (List.getElem?_eq_some_iff.1 hd).1
  have := T.mono (show 0 <= d by omega) (show d <= tr.length by omega)
  rw [T.at0, <- (T.at_ hd).1] at this
  omega
theorem InvD.finish (I : InvD P B ops tr s s' ρs ws a0 L ρ a w) (T : Tra P B call sz n0 ops tr s s') (hr : Run B ρ0 H0 n0 w0 sz ρs s ws a0) (hW : ∀ i ∈ s.W, i < n0) (hall : ∀ k, k < tr.length -> L k = true) :
    Run B ρ0 H0 n0 w0 sz ρ s' w a ∧ ∀ i ∈ s'.W, i < n0 := by
  have eM : stAt tr s' tr.length = s' := by simp [stAt]
  have hmem : mem tr s s' L tr.length = lk s'.H := funext fun i => by
    rw [T.memA tr.length (Nat.le_refl _) (fun d hd _ => hall d hd), eM]
  have hn0 : n0 <= s.n := hr.stat.le
  -- what is written in all
  have wrs : ∀ k, k <= tr.length -> (∀ i ∈ (stAt tr s' k).W, i < n0) ∧ ∀ i, i < n0 -> (i ∈ (stAt tr s' k).W ↔ i ∈ s.W ∨ ∃ (d : Nat) (e : Ent), d < k ∧ tr[d]? = some e ∧ i ∈ e.wr) := by
    intro k
    induction k with
    | zero => intro _; rw [T.at0]; exact ⟨hW, fun i _ => ⟨.inl, fun h => h.resolve_right (by rintro ⟨d, e, h, _⟩; omega)⟩⟩
    | succ k ih =>
      intro hk
      obtain ⟨e, he⟩ := T.ent (show k < tr.length by omega)
      obtain ⟨o, ho⟩ := T.op he
      obtain ⟨a1, a2⟩ := T.at_ he
      obtain ⟨i1, i2⟩ := ih (by omega)
      have ok := T.ok k e o he ho
      have key : (∀ i ∈ e.t.W, i < n0) ∧ ∀ i, i < n0 -> (i ∈ e.t.W ↔ i ∈ e.s.W ∨ i ∈ e.wr) := by
        rw [<- a1] at i1
        cases hw : e.want with
        | false =>
          obtain ⟨_, _, _, x4, x5⟩ := ok.idle hw
          rw [x4, x5]
          exact ⟨i1, fun i _ => by simp⟩
        | true =>
          obtain ⟨q1, q2⟩ := addW_ok (ok.run hw).2.2.2.2.2 i1
          exact ⟨q2, q1⟩
      rw [<- a2]
      refine ⟨key.1, fun i hi => ?_⟩
      rw [key.2 i hi, a1, i2 i hi]
      constructor
      · rintro ((h | ⟨d, e', h1, h2⟩) | h)
        · exact .inl h
        · exact .inr ⟨d, e', by omega, h2⟩
        · exact .inr ⟨k, e, by omega, he, h⟩
      · rintro (h | ⟨d, e', h1, h2, h3⟩)
        · exact .inl (.inl h)
        · rcases Nat.eq_or_lt_of_le (show d <= k by omega) with h4 | h4
          · subst h4; rw [he] at h2; cases h2; exact .inr h3
          · exact .inl (.inr ⟨d, e', h4, h2, h3⟩)
  obtain ⟨v1, v2⟩ := wrs tr.length (Nat.le_refl _)
  rw [eM] at v1 v2
  -- an old block that is there at some time was there at first
  have back : ∀ k, k <= tr.length -> ∀ i, i < s.n -> (∃ p, lk (stAt tr s' k).H i = some p) -> ∃ p, lk s.H i = some p := by
    intro k
    induction k with
    | zero => intro _ i _ h; rw [T.at0] at h; exact h
    | succ k ih =>
      intro hk i hi h
      refine ih (by omega) i hi ?_
      by_cases ht : touch tr k i
      · obtain ⟨e, he, ht⟩ := ht
        obtain ⟨o, ho⟩ := T.op he
        obtain ⟨a1, a2⟩ := T.at_ he
        rcases ht with ht | ht
        · have := T.mono (show 0 <= k by omega) (show k <= tr.length by omega)
          rw [T.at0, <- a1] at this; omega
        · obtain ⟨_, p, hp⟩ := T.wr_live he ht
          have hw := T.touch_want he (.inr ht)
          rw [<- a1]
          exact ⟨p, (T.ok k e o he ho).sub hw i p hp⟩
      · rw [T.stays (by omega) ht] at h; exact h
  have wm : ∀ i, i ∈ (tr.flatMap Ent.wr).filter (fun i => decide (i < s.n)) ↔ i < s.n ∧ ∃ (d : Nat) (e : Ent), tr[d]? = some e ∧ i ∈ e.wr := fun i => by
    rw [List.mem_filter, List.mem_flatMap]
    simp only [decide_eq_true_eq]
    constructor
    · rintro ⟨⟨e, he, hi⟩, h⟩
      obtain ⟨d, hd⟩ := List.getElem?_of_mem he
      exact ⟨h, d, e, hd, hi⟩
    · rintro ⟨h, d, e, hd, hi⟩
      exact ⟨⟨e, List.mem_of_getElem? hd, hi⟩, h⟩
  have stat : Stat B (lk s.H) s.n (lk s'.H) s'.n ((tr.flatMap Ent.wr).filter fun i => decide (i < s.n)) := by
    obtain ⟨g1, _⟩ := T.good tr.length (Nat.le_refl _)
    have hm := T.mono (show 0 <= tr.length by omega) (Nat.le_refl _)
    rw [eM] at g1 hm
    rw [T.at0] at hm
    refine ⟨hm, fun i hi => ?_, fun i hi hn => ?_, g1⟩
    · obtain ⟨h1, d, e, hd, h2⟩ := (wm i).1 hi
      refine ⟨h1, ?_⟩
      have hdl := (List.getElem?_eq_some_iff.1 hd).1
      obtain ⟨o, ho⟩ := T.op hd
      obtain ⟨_, p, hp⟩ := T.wr_live hd h2
      refine back d (by omega) i h1 ⟨p, ?_⟩
      rw [<- (T.at_ hd).1]
      exact (T.ok d e o hd ho).sub (T.touch_want hd (.inr h2)) i p hp
    · have : ∀ k, k <= tr.length -> lk (stAt tr s' k).H i = lk s.H i := by
        intro k
        induction k with
        | zero => intro _; rw [T.at0]
        | succ k ih =>
          intro hk
          rw [T.stays (by omega), ih (by omega)]
          rintro ⟨e, he, ht⟩
          rcases ht with ht | ht
          · have := T.mono (show 0 <= k by omega) (show k <= tr.length by omega)
            rw [T.at0, <- (T.at_ he).1] at this; omega
          · exact hn ((wm i).2 ⟨hi, k, e, he, ht⟩)
      have := this tr.length (Nat.le_refl _)
      rwa [eM] at this
  have slots : Slots ρ s'.n s'.E a := by
    obtain ⟨_, g2⟩ := T.good tr.length (Nat.le_refl _)
    rw [eM] at g2
    refine ⟨fun t v h => ?_, g2⟩
    refine I.slot T hr.slots (Nat.le_refl _) (by rw [eM]; exact h) fun j q hq _ => ?_
    have hj : j < tr.length := by rw [T.len]; exact (List.getElem?_eq_some_iff.1 hq).1
    exact .inl ⟨hj, hall j hj⟩
  have ext := I.ext
  have sat := I.sat
  rw [hmem] at ext sat
  refine ⟨⟨sat, Ext.trans hr.stat stat hr.ext ext fun i hi hh => ?_, Stat.trans hr.stat stat (fun i hi => ?_) v1, slots, by rw [I.size]; exact hr.size, I.defers⟩, v1⟩
  · rw [v2 i hi]
    refine hh.imp id fun h => ?_
    obtain ⟨_, d, e, hd, h2⟩ := (wm i).1 h
    exact ⟨d, e, (List.getElem?_eq_some_iff.1 hd).1, hd, h2⟩
  · rw [v2 i hi, wm i]
    constructor
    · exact fun h => h.imp id fun ⟨d, e, _, h2, h3⟩ => ⟨by omega, d, e, h2, h3⟩
    · exact fun h => h.imp id fun ⟨_, d, e, h2, h3⟩ => ⟨d, e, (List.getElem?_eq_some_iff.1 h2).1, h2, h3⟩
theorem ready_of {listed : Array Bool} {i : Nat} : i ∈ Region.ready .any ops.toArray listed ↔ listed.getD i true = false ∧ ∃ o, ops[i]? = some o ∧ ∀ e ∈ o.after, Region.binds .any e = true -> listed.getD e.on false = true := by
  rw [mem_ready]
  simp
theorem region_any (T : Tra P B call sz n0 ops tr s s') (hr : Run B ρ0 H0 n0 w0 sz ρs s ws a0) (hW : ∀ i ∈ s.W, i < n0) (hq : ∀ ρ' w' a', Run B ρ0 H0 n0 w0 sz ρ' s' w' a' -> (∀ i ∈ s'.W, i < n0) -> Q .normal a' w') :
    ∀ (fuel : Nat) (listed : Array Bool) (ρ : Lies) (a : Act) (w : World), listed.size = ops.length -> InvD P B ops tr s s' ρs ws a0 (fun k => listed.getD k false) ρ a w -> unlisted listed = fuel -> wpAny P .any ops.toArray Q fuel listed a w := by
  have fin : ∀ (listed : Array Bool) (ρ : Lies) (a : Act) (w : World), listed.size = ops.length -> InvD P B ops tr s s' ρs ws a0 (fun k => listed.getD k false) ρ a w -> Region.ready .any ops.toArray listed = [] -> Q .normal a w := by
    intro listed ρ a w hls I hrd
    have all : ∀ k, k < tr.length -> listed.getD k false = true := by
      intro k
      induction k using Nat.strongRecOn with
      | _ k ih =>
        intro hk
        obtain ⟨e, he⟩ := T.ent hk
        obtain ⟨o, ho⟩ := T.op he
        have hks : k < listed.size := by rw [hls, <- T.len]; exact hk
        cases hb : listed[k] with
        | true => simp [Array.getD_eq_getD_getElem?, hks, hb]
        | false =>
          exfalso
          have : k ∈ Region.ready .any ops.toArray listed := ready_of.2 ⟨by simp [Array.getD_eq_getD_getElem?, hks, hb], o, ho, fun ed hed hbd => by
            have := (T.facts he ho).edges ed hed hbd
            exact ih ed.on this (by omega)⟩
          rw [hrd] at this; cases this
    obtain ⟨h1, h2⟩ := I.finish T hr hW all
    exact hq ρ w a h1 h2
  intro fuel
  induction fuel with
  | zero =>
    intro listed ρ a w hls I hu
    have hrd : Region.ready .any ops.toArray listed = [] := by
      rw [List.eq_nil_iff_forall_not_mem]
      intro i hi
      obtain ⟨h0, o, ho, _⟩ := ready_of.1 hi
      have hil : i < listed.size := by rw [hls]; exact (List.getElem?_eq_some_iff.1 ho).1
      have hf : listed[i] = false := by simpa [Array.getD_eq_getD_getElem?, hil] using h0
      have : 0 < unlisted listed := by
        unfold unlisted
        rw [List.countP_pos_iff]
        exact ⟨false, by rw [<- hf]; simp, rfl⟩
      omega
    exact ⟨hrd, fin listed ρ a w hls I hrd⟩
  | succ fuel ih =>
    intro listed ρ a w hls I hu
    refine ⟨fin listed ρ a w hls I, fun i hi => ?_⟩
    obtain ⟨h0, o, ho, hed⟩ := ready_of.1 hi
    have hil : i < listed.size := by rw [hls]; exact (List.getElem?_eq_some_iff.1 ho).1
    have hf : listed[i]? = some false := by
      rw [Array.getElem?_eq_getElem hil]
      simpa [Array.getD_eq_getD_getElem?, hil] using h0
    have hLi : listed.getD i false = false := by simp [Array.getD_eq_getD_getElem?, hf]
    obtain ⟨e, he⟩ := T.ent (show i < tr.length by rw [T.len]; exact (List.getElem?_eq_some_iff.1 ho).1)
    have ok := T.ok i e o he ho
    have fx := T.facts he ho
    have hm : ∀ j, e.mask.testBit j = true -> listed.getD j false = true := fun j hj => by
      obtain ⟨ed, h1, h2, h3⟩ := ok.mask j hj
      have h4 := hed ed h1 h2
      rcases h3 with h3 | ⟨e', h3, h5⟩
      · rw [<- h3]; exact h4
      · exact I.closed ed.on e' h3 h4 j h5
    have up : ∀ {ρ' : Lies} {a' : Act} {w' : World}, InvD P B ops tr s s' ρs ws a0 (upL (fun k => listed.getD k false) i) ρ' a' w' -> wpAny P .any ops.toArray Q fuel (listed.setIfInBounds i true) a' w' := fun {ρ' a' w'} h => by
      refine ih _ ρ' a' w' (by simpa using hls) (h.congr fun d => ?_) (by have := unlisted_set hf; omega)
      by_cases hd : d = i
      · subst hd
        rw [upL_same]
        simp [Array.getD_eq_getD_getElem?, hil]
      · rw [upL_other hd]
        simp only [Array.getD_eq_getD_getElem?]
        rw [Array.getElem?_setIfInBounds_ne (fun h => hd h.symm)]
    have hwant : Region.wanted o (yielded ops.toArray a.tmps) = e.want := by
      refine wantE_ok (ρ := ρ) (E := e.s.E) (fun j want t v hg hdst hv => ?_) ok.want
      obtain ⟨g1, g2⟩ := fx.guard j want hg
      rw [(T.at_ he).1] at hv
      refine I.slot T hr.slots (by have := (List.getElem?_eq_some_iff.1 he).1; omega) hv fun p q hq hd => ?_
      have hjo : ∃ oj, ops[j]? = some oj ∧ oj.dst = some t := by
        have : (ops.toArray)[j]? = ops[j]? := by simp
        rw [this] at hdst
        cases hoj : ops[j]? with
        | none => rw [hoj] at hdst; cases hdst
        | some oj => rw [hoj] at hdst; exact ⟨oj, rfl, hdst⟩
      obtain ⟨oj, hoj, hdj⟩ := hjo
      have := okD_dst T.stat hoj hq hdj hd
      subst this
      exact .inl ⟨g1, hm _ g2⟩
    unfold wpOp
    have ho' : (ops.toArray)[i]? = some o := by simpa using ho
    simp only [ho']
    rw [hwant]
    cases hw : e.want with
    | true =>
      rw [if_pos rfl]
      refine .inl (wp_noQ (Oper.wp_mono (fun a' w' h => ?_) (I.step T hr.slots hr.size he ho hLi hm hw).wp))
      obtain ⟨v, rfl, ρ', h⟩ := h
      exact up h
    | false =>
      rw [if_neg (by simp)]
      exact up (I.idle T hr.size he ho hm hw)
theorem dropsE_ok (hm : P.follows .mixedOrders = true) (hc : CallOK P B call) {opsA : Array Oper} (hok : okD sz opsA.toList = true) {id : Nat} (h : dropsE P B call sz n0 opsA opsA.toList 0 [] [] s = .ok s') (hr : Run B ρ0 H0 n0 w0 sz ρ s w a) (hW : ∀ i ∈ s.W, i < n0)
    (hq : ∀ ρ' w' a', Run B ρ0 H0 n0 w0 sz ρ' s' w' a' -> (∀ i ∈ s'.W, i < n0) -> Q .normal a' w') : (Code.region id opsA true).wp P Q a w := by
  obtain ⟨tr, t1, t2, t3, t4⟩ := trace (pre := []) h rfl rfl (fun d e he => by simp at he) (fun d hd => by cases hd) (fun j o ho ed hed hb => by
    have := (okOp_ok (okD_op hok ho)).edges ed hed hb
    omega)
  have T : Tra P B call sz n0 opsA.toList tr s s' := ⟨t1, t3, fun k e o he ho => by
    have := t4 [] k e o he ho
    simpa using this, hok, fun k e he => by
    have hlt := (List.getElem?_eq_some_iff.1 he).1
    have : masksOf opsA.toList = tr.map Ent.mask := by
      unfold masksOf
      rw [t2]
      simp
    rw [this, List.getD_eq_getElem?_getD, List.getElem?_map, he]
    rfl, hc, hr.stat.wf, hr.slots.bel⟩
  refine wp_region_any hm ?_
  have hu : unlisted (Array.replicate opsA.size false) = opsA.size := by simp [unlisted, List.countP_replicate]
  have := region_any (Q := Q) T hr hW hq opsA.size (Array.replicate opsA.size false) ρ a { w with drawn := w.drawn + 1 } (by simp) ((InvD.start T hr (w.drawn + 1)).congr fun d => by
    simp only [Array.getD_eq_getD_getElem?, Array.getElem?_replicate]
    split <;> rfl) hu
  simpa using this
end
end V
end Go.Proofs.YtpjpdohdceabpaaGreatDoor

/-
  A call without arguments that is known beforehand: its blocks get other numbers.
-/
namespace Go.Proofs.YtpjpdohdceabpaaGreatDoor
open Go.RowKit
namespace V
set_option linter.unusedVariables false
section
variable {P : Program} {B n k : Nat} {ρ ρ' ρ'' : Lies} {H : AH} {w w' : World} [Low B]
theorem shN_ok {i j : Nat} (h : shN k B i = .ok j) : (i < B ∧ j = i) ∨ (B <= i ∧ j = i + k) := by
  unfold shN at h
  split at h
  · rename_i hb
    rw [Nat.ble_eq] at hb
    cases h
    exact .inl ⟨hb, rfl⟩
  · rename_i hb
    have : ¬ (i + 1 <= B) := fun hh => by rw [<- Nat.ble_eq, hb] at hh; cases hh
    exact .inr ⟨by omega, fN_ok h⟩
theorem shL_ok {f : Value -> R Value} : ∀ {l r : List Value}, shL f l = .ok r -> r.length = l.length ∧ ∀ (i : Nat) (v : Value), r[i]? = some v -> ∃ u, l[i]? = some u ∧ f u = .ok v
  | [], r, h => by cases h; exact ⟨rfl, fun i v h => by simp at h⟩
  | u :: t, r, h => by
    simp only [shL] at h
    replace h := bind_ok h; obtain ⟨v, hv, h⟩ := h
    replace h := bind_ok h; obtain ⟨q, hq, h⟩ := h
    cases h
    obtain ⟨h1, h2⟩ := shL_ok hq
    refine ⟨by simp [h1], fun i x hi => ?_⟩
    cases i with
    | zero => simp at hi; subst hi; exact ⟨u, by simp, hv⟩
    | succ i => simp at hi; obtain ⟨y, h3, h4⟩ := h2 i x hi; exact ⟨y, by simpa using h3, h4⟩
structure Shift (B k N : Nat) (ρ' ρ'' : Lies) : Prop where
  low : ∀ i, i < B -> ρ'' i = ρ' i
  high : ∀ i, B <= i -> i < N -> ρ'' (i + k) = ρ' i
theorem shV_ok {N : Nat} (hs : Shift B k N ρ' ρ'') : ∀ {d : Nat} {v u : Value}, shV k B d v = .ok u -> below N d v = true -> ren ρ'' u = ren ρ' v ∧ below (N + k) d u = true
  | 0, v, u, h, _ => by cases h
  | d + 1, v, u, h, hb => by
    have one : ∀ {i j : Nat}, shN k B i = .ok j -> i < N -> ρ'' j = ρ' i ∧ j < N + k := fun {i j} h hi => by
      rcases shN_ok h with ⟨h1, rfl⟩ | ⟨h1, rfl⟩
      · exact ⟨hs.low _ h1, by omega⟩
      · exact ⟨hs.high _ h1 hi, by omega⟩
    have many : ∀ {l r : List Value}, shL (shV k B d) l = .ok r -> l.all (below N d) = true -> r.map (ren ρ'') = l.map (ren ρ') ∧ r.all (below (N + k) d) = true := fun {l r} h hl => by
      obtain ⟨h1, h2⟩ := shL_ok h
      rw [List.all_eq_true] at hl
      refine ⟨List.ext_getElem? fun i => ?_, ?_⟩
      · rw [List.getElem?_map, List.getElem?_map]
        cases hr : r[i]? with
        | none =>
          have : l[i]? = none := by
            rw [List.getElem?_eq_none_iff] at hr ⊢
            omega
          rw [this]; rfl
        | some v =>
          obtain ⟨u, h3, h4⟩ := h2 i v hr
          rw [h3]
          simp only [Option.map_some]
          rw [(shV_ok hs h4 (hl u (List.mem_of_getElem? h3))).1]
      · rw [List.all_eq_true]
        intro v hv
        obtain ⟨i, hi⟩ := List.getElem?_of_mem hv
        obtain ⟨u, h3, h4⟩ := h2 i v hi
        exact (shV_ok hs h4 (hl u (List.mem_of_getElem? h3))).2
    simp only [shV] at h
    split at h
    · cases h; exact ⟨by simp, rfl⟩
    · cases h; exact ⟨by simp, rfl⟩
    · cases h; exact ⟨by simp, rfl⟩
    · cases h; exact ⟨by simp, rfl⟩
    · rename_i a
      replace h := bind_ok h; obtain ⟨j, hj, h⟩ := h
      cases h
      simp only [below, Nat.ble_eq] at hb
      obtain ⟨h1, h2⟩ := one hj hb
      exact ⟨by simp [ra, h1], by simp only [below, Nat.ble_eq]; exact h2⟩
    · cases h; exact ⟨by simp, rfl⟩
    · rename_i a _ _
      replace h := bind_ok h; obtain ⟨j, hj, h⟩ := h
      cases h
      simp only [below, Bool.and_eq_true, Bool.or_eq_true, Nat.ble_eq] at hb
      obtain ⟨h1, h2⟩ := one hj hb.1
      exact ⟨by simp [ra, cpv, h1], by simp only [below, Bool.and_eq_true, Bool.or_eq_true, Nat.ble_eq]; exact ⟨h2, hb.2.elim .inl fun h9 => .inr (by omega)⟩⟩
    · replace h := bind_ok h; obtain ⟨r, hr, h⟩ := h
      cases h
      simp only [below] at hb
      obtain ⟨h1, h2⟩ := many hr hb
      exact ⟨by simp [h1], by simp only [below]; exact h2⟩
    · replace h := bind_ok h; obtain ⟨r, hr, h⟩ := h
      cases h
      simp only [below] at hb
      obtain ⟨h1, h2⟩ := many hr hb
      exact ⟨by simp [h1], by simp only [below]; exact h2⟩
    · cases h
def shO (k B : Nat) (o o' : AO) : Prop := ∃ cs e es x cs', o = .cells cs e es x ∧ o' = .cells cs' e es x ∧ shL (shV k B deep) cs = .ok cs'
theorem shH_ok : ∀ {M H' : AH}, shH k B H M = .ok H' -> (∀ i, i < B + k -> lk H' i = lk H i) ∧ ∀ i, B + k <= i -> (∃ o o', lk M (i - k) = some o ∧ lk H' i = some o' ∧ shO k B o o') ∨ (lk M (i - k) = none ∧ lk H' i = lk H i)
  | [], H', h => by cases h; exact ⟨fun i _ => rfl, fun i _ => .inr ⟨rfl, rfl⟩⟩
  | (j, o) :: t, H', h => by
    simp only [shH] at h
    split at h
    · rename_i cs e es x
      replace h := if_ok h; obtain ⟨hj, h⟩ := h
      replace h := bind_ok h; obtain ⟨cs', hcs, h⟩ := h
      replace h := bind_ok h; obtain ⟨j', hj', h⟩ := h
      replace h := bind_ok h; obtain ⟨r, hr, h⟩ := h
      cases h
      rw [Nat.ble_eq] at hj
      have hj' := fN_ok hj'
      subst hj'
      obtain ⟨h1, h2⟩ := shH_ok hr
      refine ⟨fun i hi => ?_, fun i hi => ?_⟩
      · rw [lk_cons, if_neg (by omega)]; exact h1 i hi
      · rw [lk_cons, lk_cons]
        by_cases hij : i = j + k
        · rw [if_pos hij, if_pos (by omega)]
          exact .inl ⟨_, _, rfl, rfl, cs, e, es, x, cs', rfl, rfl, hcs⟩
        · rw [if_neg hij, if_neg (by omega)]
          exact h2 i hi
    · cases h
theorem memo_did {m r : Res} {args : List Value} {v : Value} (hs : Sat B ρ (lk H) w) (hw : WF B (lk H) n) (h : memoE B m args H n = .ok r) (hd : Did B still [] B w m v w') : args = [] ∧ Did B ρ H n w r v w' := by
  unfold memoE at h
  replace h := if_ok h; obtain ⟨h0, h⟩ := h
  replace h := bind_ok h; obtain ⟨k, hk, h⟩ := h
  replace h := bind_ok h; obtain ⟨u, hu, h⟩ := h
  replace h := bind_ok h; obtain ⟨H', hH, h⟩ := h
  replace h := bind_ok h; obtain ⟨n', hn', h⟩ := h
  cases h
  rw [Bool.and_eq_true, Bool.and_eq_true, Bool.and_eq_true, Nat.ble_eq] at h0
  obtain ⟨⟨⟨h1, h2⟩, h3⟩, h4⟩ := h0
  have hargs := empty_wr (l := m.wr) h2
  have ha : args = [] := by cases args with | nil => rfl | cons _ _ => cases h1
  replace hk := fN_ok hk
  replace hn' := fN_ok hn'
  subst hn'
  refine ⟨ha, ?_⟩
  obtain ⟨ρ', rfl, d1, d2, d3⟩ := hd
  rw [hargs] at d2 d3
  have hB := hw.le
  have hmn := d3.le
  -- the names: those of old, then the new ones
  let ρ'' : Lies := fun i => if i < n then ρ i else if i < m.n + k then ρ' (i - k) else ρ i
  have e1 : ∀ i, i < n -> ρ'' i = ρ i := fun i hi => if_pos hi
  have e2 : ∀ i, n <= i -> i < m.n + k -> ρ'' i = ρ' (i - k) := fun i hi hj => by
    show (if i < n then ρ i else if i < m.n + k then ρ' (i - k) else ρ i) = _
    rw [if_neg (by omega), if_pos hj]
  have sh : Shift B k m.n ρ' ρ'' := ⟨fun i hi => by rw [e1 i (by omega), hs.fix i hi, d1.fix i hi], fun i hi hj => by rw [e2 (i + k) (by omega) (by omega)]; congr 1; omega⟩
  obtain ⟨g1, g2⟩ := shH_ok hH
  have hnk : B + k = n := by omega
  rw [hnk] at g1 g2
  have hfree : ∀ i, n <= i -> lk H i = none := fun i hi => by
    cases hl : lk H i with
    | none => rfl
    | some p => exact absurd (hw.lt i p hl).1 (by omega)
  have newB : ∀ i o', n <= i -> lk H' i = some o' -> ∃ o, lk m.H (i - k) = some o ∧ shO k B o o' ∧ B <= i - k ∧ i - k < m.n ∧ belowO m.n o := fun i o' hi ho => by
    rcases g2 i hi with ⟨o, q, x1, x2, x3⟩ | ⟨x1, x2⟩
    · rw [x2] at ho; cases ho
      have := d3.wf.lt _ o x1
      exact ⟨o, x1, x3, by omega, this.1, this.2⟩
    · rw [x2, hfree i hi] at ho; cases ho
  have frame : ∀ b, b < w.heap.size -> w'.heap[b]? = w.heap[b]? := fun b hb => d2.frame b hb (fun i hi => by cases hi)
  have place : ∀ i o', n <= i -> lk H' i = some o' -> ρ'' i = ρ' (i - k) ∧ w.heap.size <= (ρ' (i - k)).blk := fun i o' hi ho => by
    obtain ⟨o, x1, x2, x3, x4, x5⟩ := newB i o' hi ho
    refine ⟨e2 i hi (by omega), ?_⟩
    rcases d2.fresh (i - k) o x1 x3 with hh | ⟨j, hj, _⟩
    · exact hh
    · cases hj
  obtain ⟨v1, v2⟩ := shV_ok (d := deep) sh hu h4
  refine ⟨ρ'', v1.symm, ⟨fun i hi => by rw [e1 i (by omega)]; exact hs.fix i hi, fun i o hi => ?_, fun i j o p hi hj e => ?_⟩, ⟨fun i hi => ?_, d2.os, d2.tape, d2.output, d2.size, fun b hb _ => frame b hb, fun i o hi hn => ?_⟩, ⟨by simp only; omega, fun i hi => (by cases hi), fun i hi _ => g1 i hi, ⟨by simp only; omega, fun i o hi => ?_⟩⟩⟩
  · by_cases hin : i < n
    · rw [g1 i hin] at hi
      have hat := hs.at_ i o hi
      rw [e1 i hin, frame _ hat.lt]
      exact hat.agree (fun j hj => e1 j hj) (hw.lt i o hi).1 (hw.lt i o hi).2
    · obtain ⟨q, x1, ⟨cs, e, es, x, cs', rfl, rfl, hcs⟩, x3, x4, x5⟩ := newB i o (by omega) hi
      obtain ⟨p1, p2⟩ := place i _ (by omega) hi
      obtain ⟨c, fr, y1, y2, y3, y4, y5⟩ := d1.at_ _ _ x1
      obtain ⟨z1, z2⟩ := shL_ok hcs
      rw [p1]
      refine ⟨c, fr, y1, fun j v hj => ?_, by rw [p1, z1]; exact y3, by rw [p1]; exact y4, y5⟩
      obtain ⟨u', h4, h5⟩ := z2 j v hj
      rw [p1, (shV_ok sh h5 (x5 u' (List.mem_of_getElem? h4))).1]
      exact y2 j u' h4
  · by_cases hin : i < n
    · rw [g1 i hin] at hi
      rw [e1 i hin] at e
      by_cases hjn : j < n
      · rw [g1 j hjn] at hj
        rw [e1 j hjn] at e
        exact hs.inj i j o p hi hj e
      · obtain ⟨p1, p2⟩ := place j p (by omega) hj
        rw [p1] at e
        have := (hs.at_ i o hi).lt
        omega
    · obtain ⟨p1, p2⟩ := place i o (by omega) hi
      rw [p1] at e
      by_cases hjn : j < n
      · rw [g1 j hjn] at hj
        rw [e1 j hjn] at e
        have := (hs.at_ j p hj).lt
        omega
      · obtain ⟨q1, q2⟩ := place j p (by omega) hj
        rw [q1] at e
        obtain ⟨x, x1, _⟩ := newB i o (by omega) hi
        obtain ⟨y, y1, _⟩ := newB j p (by omega) hj
        have := d1.inj _ _ _ _ x1 y1 e
        omega
  · rcases hi with hi | hi
    · exact e1 i hi
    · show (if i < n then ρ i else if i < m.n + k then ρ' (i - k) else ρ i) = _
      simp only at hi
      rw [if_neg (by omega), if_neg (by omega)]
  · obtain ⟨p1, p2⟩ := place i o hn hi
    left; rw [p1]; exact p2
  · by_cases hin : i < n
    · rw [g1 i hin] at hi
      have := hw.lt i o hi
      exact ⟨by simp only; omega, belowO_up (by simp only; omega) this.2⟩
    · obtain ⟨q, x1, ⟨cs, e, es, x, cs', rfl, rfl, hcs⟩, x3, x4, x5⟩ := newB i o (by omega) hi
      refine ⟨by simp only; omega, fun v hv => ?_⟩
      obtain ⟨j, hj⟩ := List.getElem?_of_mem hv
      obtain ⟨u', h4, h5⟩ := (shL_ok hcs).2 j v hj
      exact (shV_ok sh h5 (x5 u' (List.mem_of_getElem? h4))).2
end
end V
end Go.Proofs.YtpjpdohdceabpaaGreatDoor

/-
  Code and calls: what is reckoned is what is run.
-/
namespace Go.Proofs.YtpjpdohdceabpaaGreatDoor
open Go.RowKit
namespace V
set_option linter.unusedVariables false
def exitOf : Way -> Exit
  | .normal => .normal
  | .exit id => .exit id
  | .ret => .ret
section
variable {P : Program} {B n0 sz lf : Nat} {call : CallE} {ρ0 : Lies} {H0 : AH} {w0 : World} [Low B]
theorem codeE_ok (hm : P.follows .mixedOrders = true) (hc : CallOK P B call) : ∀ (c : Code), okCode sz c = true -> ∀ {s s' : St} {way : Way} {ρ : Lies} {w : World} {a : Act} {Q : Exit -> Act -> World -> Prop}, codeE P B call lf sz n0 c s = .ok (way, s') -> Run B ρ0 H0 n0 w0 sz ρ s w a -> (∀ i ∈ s.W, i < n0) ->
    (∀ ρ' w' a', Run B ρ0 H0 n0 w0 sz ρ' s' w' a' -> (∀ i ∈ s'.W, i < n0) -> Q (exitOf way) a' w') -> c.wp P Q a w
  | .skip, _, s, s', way, ρ, w, a, Q, h, hr, hW, hq => by
    simp only [codeE] at h
    cases h
    exact wp_skip (hq ρ w a hr hW)
  | .label l, _, s, s', way, ρ, w, a, Q, h, hr, hW, hq => by
    simp only [codeE] at h
    cases h
    exact wp_label (hq ρ w a hr hW)
  | .exit id, _, s, s', way, ρ, w, a, Q, h, hr, hW, hq => by
    simp only [codeE] at h
    cases h
    exact wp_exit (hq ρ w a hr hW)
  | .ret, _, s, s', way, ρ, w, a, Q, h, hr, hW, hq => by
    simp only [codeE] at h
    cases h
    exact wp_ret (hq ρ w a hr hW)
  | .region id ops draw, hok, s, s', way, ρ, w, a, Q, h, hr, hW, hq => by
    simp only [codeE] at h
    replace h := bind_ok h; obtain ⟨s1, h1, h⟩ := h
    cases h
    cases draw with
    | true =>
      simp only at h1
      exact dropsE_ok hm hc (by simpa [okCode] using hok) h1 hr hW hq
    | false =>
      simp only at h1
      exact wp_region_list (opsE_ok hc h1 hr hW hq)
  | .seq x y, hok, s, s', way, ρ, w, a, Q, h, hr, hW, hq => by
    simp only [okCode, Bool.and_eq_true] at hok
    simp only [codeE] at h
    replace h := bind_ok h; obtain ⟨r, h1, h⟩ := h
    obtain ⟨way1, s1⟩ := r
    refine wp_seq (codeE_ok hm hc x hok.1 h1 hr hW fun ρ' w' a' hr' hW' => ?_)
    cases way1 with
    | normal => exact codeE_ok hm hc y hok.2 h hr' hW' hq
    | exit id => cases h; exact hq ρ' w' a' hr' hW'
    | ret => cases h; exact hq ρ' w' a' hr' hW'
  | .cond c x y, hok, s, s', way, ρ, w, a, Q, h, hr, hW, hq => by
    simp only [okCode, Bool.and_eq_true] at hok
    simp only [codeE] at h
    replace h := bind_ok h; obtain ⟨v, hv, h⟩ := h
    replace h := bind_ok h; obtain ⟨b, hb, h⟩ := h
    have hb := boolV_ok hb
    have he : a.eval c = .bool b := by rw [(hr.now.evX hv).1, hb, ren_bool]
    cases b with
    | true => exact wp_cond he (codeE_ok hm hc x hok.1 h hr hW hq)
    | false => exact wp_cond he (codeE_ok hm hc y hok.2 h hr hW hq)
  | .block id x, hok, s, s', way, ρ, w, a, Q, h, hr, hW, hq => by
    simp only [okCode] at hok
    simp only [codeE] at h
    replace h := bind_ok h; obtain ⟨r, h1, h⟩ := h
    obtain ⟨way1, s1⟩ := r
    refine wp_block (codeE_ok hm hc x hok h1 hr hW fun ρ' w' a' hr' hW' => ?_)
    cases way1 with
    | normal => cases h; exact hq ρ' w' a' hr' hW'
    | ret => cases h; exact hq ρ' w' a' hr' hW'
    | exit j =>
      simp only at h
      split at h
      · rename_i hj
        cases h
        have := Nat.eq_of_beq_eq_true hj
        simp only [exitOf, Exit.inBlock]
        rw [if_pos this]
        exact hq ρ' w' a' hr' hW'
      · rename_i hj
        cases h
        have := Nat.ne_of_beq_eq_false hj
        simp only [exitOf, Exit.inBlock]
        rw [if_neg this]
        exact hq ρ' w' a' hr' hW'
  | .scope x, hok, s, s', way, ρ, w, a, Q, h, hr, hW, hq => by
    simp only [okCode] at hok
    simp only [codeE] at h
    refine wp_scope_straight (codeE_ok hm hc x hok h hr hW fun ρ' w' a' hr' hW' => ?_)
    have := hq ρ' w' a' hr' hW'
    cases way <;> exact this
  | .loop x, hok, s, s', way, ρ, w, a, Q, h, hr, hW, hq => by
    simp only [okCode] at hok
    simp only [codeE] at h
    have key : ∀ (n : Nat) {s : St} {ρ : Lies} {w : World} {a : Act}, loopE (fun s => codeE P B call lf sz n0 x s) n s = .ok (way, s') -> Run B ρ0 H0 n0 w0 sz ρ s w a -> (∀ i ∈ s.W, i < n0) -> Code.rounds P x Q n a w := by
      intro n
      induction n with
      | zero => intro s ρ w a h; cases h
      | succ n ih =>
        intro s ρ w a h hr hW
        simp only [loopE] at h
        replace h := bind_ok h; obtain ⟨r, h1, h⟩ := h
        obtain ⟨way1, s1⟩ := r
        rw [rounds_succ]
        refine codeE_ok hm hc x hok h1 hr hW fun ρ' w' a' hr' hW' => ?_
        cases way1 with
        | normal => exact ih h hr' hW'
        | exit id => cases h; exact hq ρ' w' a' hr' hW'
        | ret => cases h; exact hq ρ' w' a' hr' hW'
    exact wp_loop_rounds lf (key lf h hr hW)
  | .rangeFunc _ _ _ _, _, s, s', way, ρ, w, a, Q, h, hr, hW, hq => by simp only [codeE] at h; cases h
  | .goto _, _, s, s', way, ρ, w, a, Q, h, hr, hW, hq => by simp only [codeE] at h; cases h
  | .refuse _, _, s, s', way, ρ, w, a, Q, h, hr, hW, hq => by simp only [codeE] at h; cases h
theorem putArgs_ok : ∀ {l : List Value} {E E' : Tr} {k : Nat}, putArgs E k l = .ok E' -> ∀ t v, E'.get t = .ok v -> (k <= t ∧ t < k + l.length ∧ l[t - k]? = some v) ∨ (¬ (k <= t ∧ t < k + l.length) ∧ E.get t = .ok v)
  | [], E, E', k, h, t, v, hg => by
    cases h
    exact .inr ⟨by simp only [List.length_nil]; omega, hg⟩
  | u :: l, E, E', k, h, t, v, hg => by
    simp only [putArgs] at h
    replace h := bind_ok h; obtain ⟨E1, h1, h⟩ := h
    replace h := bind_ok h; obtain ⟨k1, hk1, h⟩ := h
    have hk1 := fN_ok hk1
    subst hk1
    rcases putArgs_ok h t v hg with ⟨x, y, z⟩ | ⟨x, y⟩
    · refine .inl ⟨by omega, by simp only [List.length_cons]; omega, ?_⟩
      rw [show t - k = (t - (k + 1)) + 1 by omega, List.getElem?_cons_succ]
      exact z
    · rcases Tr.get_put h1 y with ⟨rfl, rfl⟩ | ⟨hne, hg'⟩
      · exact .inl ⟨Nat.le_refl _, by simp only [List.length_cons]; omega, by simp⟩
      · refine .inr ⟨by simp only [List.length_cons]; omega, hg'⟩
theorem keepH_eq {n : Nat} {keep : List Nat} : ∀ {H H' : AH}, keepH n keep H = .ok H' -> ∀ i, lk H' i = if (Nat.ble (i + 1) n || keep.contains i) = true then lk H i else none
  | [], H', h, i => by cases h; simp [lk, get]
  | (j, o) :: t, H', h, i => by
    simp only [keepH] at h
    split at h
    · rename_i hk
      replace h := bind_ok h; obtain ⟨r, hr, h⟩ := h
      cases h
      have ih := keepH_eq hr i
      rw [lk_cons, lk_cons]
      by_cases hij : i = j
      · subst hij
        rw [if_pos rfl, if_pos rfl, if_pos hk]
      · rw [if_neg hij, if_neg hij]; exact ih
    · rename_i hk
      have ih := keepH_eq h i
      rw [ih, lk_cons]
      by_cases hij : i = j
      · subst hij
        rw [hk, if_neg (by simp), if_neg (by simp)]
      · rw [if_neg hij]
theorem keepH_ok {n : Nat} {keep : List Nat} {H H' : AH} (h : keepH n keep H = .ok H') (i : Nat) : (i < n -> lk H' i = lk H i) ∧ ∀ p, lk H' i = some p -> lk H i = some p := by
  rw [keepH_eq h i]
  refine ⟨fun hi => ?_, fun p hp => ?_⟩
  · have : Nat.ble (i + 1) n = true := by rw [Nat.ble_eq]; exact hi
    rw [this, Bool.true_or, if_pos rfl]
  · split at hp
    · exact hp
    · cases hp
theorem resultsE_ok {s : St} {ρ : Lies} {w : World} {a : Act} {f : ResultVar -> Sem Value} (hf1 : ∀ t, f (.tmp t) = pure (a.tmps.getD t undef)) (hf2 : ∀ x t, f (.cell x t) = (do loadVar t (<- asAddr (a.tmps.getD x undef)))) (c : Now B ρ s.H s.n w s.E a) :
    ∀ {l : List ResultVar} {vs : List Value}, resultsE P s l = .ok vs -> (l.mapM f).run P w = .ok (vs.map (ren ρ)) w
  | [], vs, h => by cases h; rfl
  | .tmp t :: l, vs, h => by
    simp only [resultsE] at h
    replace h := bind_ok h; obtain ⟨v, hv, h⟩ := h
    replace h := bind_ok h; obtain ⟨r, hr, h⟩ := h
    cases h
    have ih := resultsE_ok hf1 hf2 c hr
    simp only [List.mapM_cons, Sem.run_bind, hf1, Sem.run_pure, Result.andThen_ok, ih, c.slots.tmp t v hv, List.map_cons]
  | .cell x t :: l, vs, h => by
    simp only [resultsE] at h
    replace h := bind_ok h; obtain ⟨p, hp, h⟩ := h
    replace h := bind_ok h; obtain ⟨ad, had, h⟩ := h
    replace h := bind_ok h; obtain ⟨b, hb, h⟩ := h
    replace h := bind_ok h; obtain ⟨v, hv, h⟩ := h
    replace h := bind_ok h; obtain ⟨r, hr, h⟩ := h
    cases h
    have ih := resultsE_ok hf1 hf2 c hr
    obtain ⟨hpe, hs⟩ := addrV_ok had
    have e1 : (asAddr (a.tmps.getD x undef)).run P w = .ok (ra ρ ad) w := by rw [c.slots.tmp x p hp, hpe, ren_ptr]; rfl
    have e2 := c.load (P := P) hs hb hv
    simp only [List.mapM_cons, Sem.run_bind, hf2, e1, Sem.run_pure, Result.andThen_ok, e2, ih, List.map_cons]
theorem resV_ok {vs : List Value} {ρ : Lies} : (if h : ((vs.map (ren ρ)).toArray).size = 1 then ((vs.map (ren ρ)).toArray)[0] else .tuple ((vs.map (ren ρ)).toArray)) = ren ρ (resV vs) := by
  cases vs with
  | nil => simp [resV]
  | cons v t =>
    cases t with
    | nil => simp [resV]
    | cons u t => simp [resV]
theorem bodyE_ok (hm : P.follows .mixedOrders = true) (hok : P.funcs.toList.all okFn = true) {c0 : CallE} (hc : CallOK P B c0) (lf : Nat) : CallOK P B (bodyE P B c0 lf) := fun f args H n r h ρ w hs hw hargs => by
    unfold bodyE at h
    replace h := bind_ok h; obtain ⟨fn, hfn, h⟩ := h
    replace hfn := of_ok hfn
    have hokf : okFn fn = true := by
      rw [List.all_eq_true] at hok
      obtain ⟨hlt, hget⟩ := Array.getElem?_eq_some_iff.1 hfn
      exact hok fn (by rw [<- hget]; simp)
    unfold okFn at hokf
    rw [Bool.and_eq_true] at hokf
    have hname : (fn.name == "runtime.NumGoroutine") = false := by simpa using hokf.1
    cases hb : fn.body with
    | none =>
      rw [hb] at h
      replace h := say_ok h
      unfold externE at h
      replace h := if_ok h; obtain ⟨hcl, h⟩ := h
      have hr : args.map (ren ρ) = args := closedL hs.fix hcl
      split at h
      · rename_i v hv
        replace h := bind_ok h; obtain ⟨v', hv', h⟩ := h
        replace h := if_ok h; obtain ⟨hvb, h⟩ := h
        cases h
        have := fV_ok 3 _ _ hv'
        subst this
        right
        refine ⟨v', w, by rw [hr]; exact runPure_ok hv w, ρ, (ren_closed hs.fix hvb).symm, hs, Ext.refl (fun i o hi => (hw.lt i o hi).1) [], Stat.refl hw⟩
      · cases h
    | some c =>
      rw [hb] at h hokf
      simp only at h hokf
      replace h := bind_ok h; obtain ⟨E, hE, h⟩ := h
      replace h := if_ok h; obtain ⟨hsl, h⟩ := h
      replace h := bind_ok h; obtain ⟨q, hq, h⟩ := h
      replace hq := say_ok hq
      obtain ⟨way, s1⟩ := q
      rw [Bool.and_eq_true, Nat.ble_eq, Nat.ble_eq] at hsl
      left
      have hn1 : fn.name ≠ "runtime.NumGoroutine" := by simpa using hname
      refine ⟨by simp [callFunc, hfn, hn1, hb], calls_of_wp hfn hb ?_⟩
      have hsz : ((args.map (ren ρ)).toArray ++ Array.replicate (fn.ntmps - ((args.map (ren ρ)).toArray).size) undef).size = fn.ntmps := by
        simp; omega
      have start : Run B ρ H n w fn.ntmps ρ ⟨E, H, n, []⟩ w { tmps := (args.map (ren ρ)).toArray ++ Array.replicate (fn.ntmps - ((args.map (ren ρ)).toArray).size) undef, defers := [] } := by
        refine ⟨hs, Ext.refl (fun i o hi => (hw.lt i o hi).1) [], Stat.refl hw, ⟨fun t v ht => ?_, fun t v ht => ?_⟩, hsz, rfl⟩
        · rcases putArgs_ok hE t v ht with ⟨_, h2, h3⟩ | ⟨h2, h3⟩
          · simp only [Nat.zero_add, Nat.sub_zero] at h2 h3
            simp only [Array.getD_eq_getD_getElem?]
            rw [Array.getElem?_append_left (by simpa using h2), List.getElem?_toArray, List.getElem?_map, h3]
            rfl
          · have := Tr.full_get h3
            subst this
            rw [ren_undef]
            simp only [Array.getD_eq_getD_getElem?]
            rw [Array.getElem?_append_right (by simp; omega), Array.getElem?_replicate]
            split <;> rfl
        · rcases putArgs_ok hE t v ht with ⟨_, h2, h3⟩ | ⟨h2, h3⟩
          · exact hargs v (List.mem_of_getElem? h3)
          · have := Tr.full_get h3
            subst this
            rfl
      have post : ∀ (e : Exit), (e = .normal ∨ e = .ret) -> (resultsE P s1 fn.results.toList).bind (fun vs => (gc s1.H n (resV vs) s1.W).bind fun H' => R.ok (⟨resV vs, H', s1.n, s1.W⟩ : Res)) = .ok r ->
          ∀ ρ' w' a', Run B ρ H n w fn.ntmps ρ' s1 w' a' -> (∀ i ∈ s1.W, i < n) -> bodyPost P fn (fun e w' => ∃ v, e = .returned v ∧ Did B ρ H n w r v w') e a' w' := by
        intro e he h ρ' w' a' hr hW
        replace h := bind_ok h; obtain ⟨vs, hvs, h⟩ := h
        replace h := bind_ok h; obtain ⟨H', hH, h⟩ := h
        cases h
        have hkeep := fun i => keepH_ok hH i
        have hres : (results fn a'.tmps).run P w' = .ok (ren ρ' (resV vs)) w' := by
          unfold results
          rw [Sem.run_bind, Array.mapM_eq_mapM_toList, Sem.run_map]
          rw [resultsE_ok (P := P) (fun _ => rfl) (fun _ _ => rfl) hr.now hvs]
          simp only [Result.andThen_ok, Sem.run_pure]
          rw [resV_ok]
        have hd : Did B ρ H n w ⟨resV vs, H', s1.n, s1.W⟩ (ren ρ' (resV vs)) w' := by
          refine ⟨ρ', rfl, hr.sat.weak fun i p hp => (hkeep i).2 p hp, ⟨hr.ext.agree, hr.ext.os, hr.ext.tape, hr.ext.output, hr.ext.size, hr.ext.frame, fun i p hp hn => hr.ext.fresh i p ((hkeep i).2 p hp) hn⟩,
            ⟨hr.stat.le, hr.stat.live, fun i hi hn => by rw [(hkeep i).1 hi]; exact hr.stat.keep i hi hn, ⟨hr.stat.wf.le, fun i p hp => hr.stat.wf.lt i p ((hkeep i).2 p hp)⟩⟩⟩
        rcases he with rfl | rfl
        · exact bodyPost_end hres hr.defers ⟨_, rfl, hd⟩
        · exact bodyPost_ret hres hr.defers ⟨_, rfl, hd⟩
      refine codeE_ok hm hc c hokf.2 hq start (fun i hi => by cases hi) fun ρ' w' a' hr hW => ?_
      cases way with
      | normal => exact post .normal (.inl rfl) h ρ' w' a' hr hW
      | ret => exact post .ret (.inr rfl) h ρ' w' a' hr hW
      | exit id => cases h
theorem enter_of (hok : P.funcs.toList.all okFn = true) {f : FuncId} {args : Array Value} (hbody : ((P.funcs[f]?).bind Func.body).isSome = true) (w : World) : (callFunc f args).run P w = .ok (.enter f args) w := by
  cases hfn : P.funcs[f]? with
  | none => rw [hfn] at hbody; cases hbody
  | some fn =>
    rw [hfn] at hbody
    cases hb : fn.body with
    | none => simp [hb] at hbody
    | some c =>
      have hokf : okFn fn = true := by
        rw [List.all_eq_true] at hok
        obtain ⟨hlt, hget⟩ := Array.getElem?_eq_some_iff.1 hfn
        exact hok fn (by rw [<- hget]; simp)
      unfold okFn at hokf
      rw [Bool.and_eq_true] at hokf
      have hn1 : fn.name ≠ "runtime.NumGoroutine" := by simpa using hokf.1
      simp [callFunc, hfn, hn1, hb]
end
end V
end Go.Proofs.YtpjpdohdceabpaaGreatDoor

/-
  The reckoner again, in a form that the kernel reckons faster: what depends on the program alone is worked out once (it is closed, and the kernel keeps what it has worked out).
-/
namespace Go.Proofs.YtpjpdohdceabpaaGreatDoor
open Go.RowKit
namespace V
set_option linter.unusedVariables false
noncomputable section
structure GetH where
  run : Tr -> R Value
noncomputable def getP : Nat -> Nat -> GetH
  | 0, _ => ⟨fun _ => .no ["slot"]⟩
  | d + 1, n => match n with
    | 0 => ⟨fun E => Tr.rec (motive := fun _ => R Value) (.no ["slot"]) (fun v _ _ _ _ => .ok v) E⟩
    | m + 1 => match Nat.beq (m % 2) 0 with
      | true => ⟨fun E => Tr.rec (motive := fun _ => R Value) (.no ["slot"]) (fun _ l _ _ _ => (getP d (m / 2)).run l) E⟩
      | false => ⟨fun E => Tr.rec (motive := fun _ => R Value) (.no ["slot"]) (fun _ _ r _ _ => (getP d (m / 2)).run r) E⟩
structure PutH where
  run : Tr -> Value -> R Tr
noncomputable def putP : Nat -> Nat -> PutH
  | 0, _ => ⟨fun _ _ => .no ["slot"]⟩
  | d + 1, n => match n with
    | 0 => ⟨fun E u => Tr.rec (motive := fun _ => R Tr) (.no ["slot"]) (fun _ l r _ _ => .ok (.node u l r)) E⟩
    | m + 1 => match Nat.beq (m % 2) 0 with
      | true => ⟨fun E u => Tr.rec (motive := fun _ => R Tr) (.no ["slot"]) (fun v l r _ _ => R.rec (motive := fun _ => R Tr) (fun l' => .ok (.node v l' r)) (fun s => .no s) ((putP d (m / 2)).run l u)) E⟩
      | false => ⟨fun E u => Tr.rec (motive := fun _ => R Tr) (.no ["slot"]) (fun v l r _ _ => R.rec (motive := fun _ => R Tr) (fun r' => .ok (.node v l r')) (fun s => .no s) ((putP d (m / 2)).run r u)) E⟩
def evH (B : Nat) (x : Operand) : GetH := match x with
  | .tmp t => getP 9 t
  | .const v => (match below B deep v with | true => ⟨fun _ => .ok v⟩ | false => ⟨fun _ => .no ["const"]⟩)
  | x => ⟨fun E => evX B E x⟩
structure ArgsH where
  run : Tr -> R (List Value)
noncomputable def evsH (B : Nat) (l : List Operand) : ArgsH := List.rec (motive := fun _ => ArgsH) ⟨fun _ => .ok []⟩ (fun x _ ih => ⟨fun E => R.rec (motive := fun _ => R (List Value)) (fun v => R.rec (motive := fun _ => R (List Value)) (fun r => .ok (v :: r)) (fun s => .no s) (ih.run E)) (fun s => .no s) ((evH B x).run E)⟩) l
structure OpH where
  run : Tr -> AH -> Nat -> R Res
noncomputable def kEq (a b : IntKind) : Bool := IntKind.rec (motive := fun _ => Bool)
  (IntKind.rec (motive := fun _ => Bool) true false false false false false false false b) (IntKind.rec (motive := fun _ => Bool) false true false false false false false false b)
  (IntKind.rec (motive := fun _ => Bool) false false true false false false false false b) (IntKind.rec (motive := fun _ => Bool) false false false true false false false false b)
  (IntKind.rec (motive := fun _ => Bool) false false false false true false false false b) (IntKind.rec (motive := fun _ => Bool) false false false false false true false false b)
  (IntKind.rec (motive := fun _ => Bool) false false false false false false true false b) (IntKind.rec (motive := fun _ => Bool) false false false false false false false true b) a
structure PartH where
  run : List Value -> Nat -> R Value
noncomputable def nth (l : List Value) : Nat -> R Value := List.rec (motive := fun _ => Nat -> R Value) (fun _ => .no ["part"]) (fun v _ ih n => Nat.rec (motive := fun _ => R Value) (.ok v) (fun m _ => ih m) n) l
noncomputable def hPart (P : Program) (t : TypeId) : PartH := match getTy P t with
  | .no s => ⟨fun _ _ => .no s⟩
  | .ok d => match tyAgg d with
    | true => ⟨fun cs off => (getInfo P t).bind fun i => (seg cs off i.size).bind fun l => .ok (.agg ⟨l⟩)⟩
    | false => ⟨fun cs off => nth cs off⟩
def hnd (P : Program) (B : Nat) (o : Oper) : OpH :=
  match o.op with
  | .move x | .assign x => ⟨fun E H n => ((evH B x).run E).bind fun v => stay H n v⟩
  | .pick c x y => ⟨fun E H n => ((evH B c).run E).bind fun c => (boolV c).bind fun b => (Bool.rec (motive := fun _ => R Value) ((evH B y).run E) ((evH B x).run E) b).bind fun v => stay H n v⟩
  | .alloc t => ⟨fun E H n => eAlloc P B E o t H n⟩
  | .box t x => ⟨fun E H n => ((evH B x).run E).bind fun v => newO H n (.cells (vcells v) t 1 false) ptrTo⟩
  | .build t ps => ⟨fun E H n => eBuild P B E o t ps H n⟩
  | .buildSlice t len ps => ⟨fun E H n => eBuildSlice P B E o t len ps H n⟩
  | .load t x => ⟨fun E H n => ((evH B x).run E).bind fun p => (addrV p).bind fun ad => (getCells H ad.block).bind fun b => ((hPart P t).run b.1 ad.off).bind fun v => stay H n v⟩
  | .store t x y => ⟨fun E H n => eStore P B E o t x y H n⟩
  | .nilCheck x => ⟨fun E H n => eNilCheck P B E o x H n⟩
  | .binOp op t x y _ => ⟨fun E H n => ((evH B x).run E).bind fun u => ((evH B y).run E).bind fun v => eBin P B E o op t u v H n⟩
  | .unOp op _ x => ⟨fun E H n => eUnOp P B E o op x H n⟩
  | .convert src dst x => ⟨fun E H n => eConvert P B E o src dst x H n⟩
  | .makeFunc fn f c => ⟨fun E H n => eMakeFunc P B E o fn f c H n⟩
  | .makeMap t r => ⟨fun E H n => eMakeMap P B E o t r H n⟩
  | .makeSlice t l c => ⟨fun E H n => eMakeSlice P B E o t l c H n⟩
  | .slice t x lo hi mx => ⟨fun E H n => eSlice P B E o t x lo hi mx H n⟩
  | .fieldAddr t x f => ⟨fun E H n => eFieldAddr P B E o t x f H n⟩
  | .field t x f => ⟨fun E H n => eField P B E o t x f H n⟩
  | .indexAddr t x ix => ⟨fun E H n => eIndexAddr P B E o t x ix H n⟩
  | .index t x ix => ⟨fun E H n => eIndex P B E o t x ix H n⟩
  | .lookup t x ix ok => ⟨fun E H n => eLookup P B E o t x ix ok H n⟩
  | .mapUpdate t m k x | .insert t m k x => ⟨fun E H n => eMapUpdate P B E o t m k x H n⟩
  | .mapEntry t m k => ⟨fun E H n => eMapEntry P B E o t m k H n⟩
  | .entryStore _ m s x => ⟨fun E H n => eEntryStore P B E o m s x H n⟩
  | .range t x => ⟨fun E H n => eRange P B E o t x H n⟩
  | .next it isS => ⟨fun E H n => eNext P B E o it isS H n⟩
  | .extract x i => ⟨fun E H n => ((evH B x).run E).bind fun v => match v with
    | .tuple ⟨vs⟩ => (nth vs i).bind fun v => stay H n v
    | _ => .no ["extract"]⟩
  | .entry it => ⟨fun E H n => eEntry P B E o it H n⟩
  | .call c => ⟨fun E H n => eBuiltin P B E o c H n⟩
  | _ => ⟨fun _ _ _ => .no ["operation"]⟩
def hndX (P : Program) (B : Nat) (call : CallE) (o : Oper) : OpH :=
  match o.op with
  | .call c => (match c.callee with
    | .builtin _ => hnd P B o
    | .value (.func g) => ⟨fun E H n => ((evsH B c.args.toList).run E).bind fun l => call g l H n⟩
    | _ => ⟨fun E H n => (targetE B E c).bind fun t => Prod.rec (motive := fun _ => R Res) (fun g l => call g l H n) t⟩)
  | _ => hnd P B o
structure WantH where
  run : Tr -> R Bool
def hWant (ops : Array Oper) (o : Oper) : WantH := match o.guard with
  | none => ⟨fun _ => .ok true⟩
  | some (j, want) => match (ops[j]?).bind (·.dst) with
    | none => ⟨fun _ => .ok false⟩
    | some t => (match want with
      | true => ⟨fun E => ((getP 9 t).run E).bind fun v => match v with | .bool b => .ok b | _ => .ok false⟩
      | false => ⟨fun E => ((getP 9 t).run E).bind fun v => match v with | .bool b => .ok (!b) | _ => .ok false⟩)
def hPut (sz : Nat) (d : Option Tmp) : PutH := match d with
  | none => ⟨fun E _ => .ok E⟩
  | some t => match Nat.ble (t + 1) sz with
    | true => putP 9 t
    | false => ⟨fun _ _ => .no ["slot"]⟩
def belowQ (n : Nat) (v : Value) : Bool := match v with | .int _ _ => true | .bool _ => true | .string _ => true | v => below n deep v
def addWQ (n0 : Nat) (W wr : List Nat) : R (List Nat) := List.casesOn wr (.ok W) fun i t => addW n0 W (i :: t)
noncomputable def step1 (run : Tr -> AH -> Nat -> R Res) (put : Tr -> Value -> R Tr) (n0 : Nat) (k : St -> R St) (s : St) : R St :=
  St.rec (motive := fun _ => R St) (fun E H n W => R.rec (motive := fun _ => R St) (fun r => Res.rec (motive := fun _ => R St) (fun v H' n' wr => R.if_ "value" (belowQ n' v) <| (put E v).bind fun E' => (addWQ n0 W wr).bind fun W' => k ⟨E', H', n', W'⟩) r) (fun e => .no e) (run E H n)) s
noncomputable def step0 (put : Tr -> Value -> R Tr) (k : St -> R St) (s : St) : R St := St.rec (motive := fun _ => R St) (fun E H n W => (put E undef).bind fun E' => k ⟨E', H, n, W⟩) s
noncomputable def stepF (want : Tr -> R Bool) (run : Tr -> AH -> Nat -> R Res) (put : Tr -> Value -> R Tr) (n0 : Nat) (k : St -> R St) (s : St) : R St :=
  (want s.E).bind fun b => Bool.casesOn b (step0 put k s) (step1 run put n0 k s)
noncomputable def opsF (P : Program) (B : Nat) (call : CallE) (sz n0 : Nat) (ops : Array Oper) (l : List Oper) : St -> R St :=
  List.rec (motive := fun _ => St -> R St) (fun s => .ok s) (fun o _ ih s => stepF (hWant ops o).run (hndX P B call o).run (hPut sz o.dst).run n0 ih s) l
noncomputable def dropsF (P : Program) (B : Nat) (call : CallE) (sz n0 : Nat) (ops : Array Oper) (l : List Oper) : Nat -> List Nat -> List Done -> St -> R St :=
  List.rec (motive := fun _ => Nat -> List Nat -> List Done -> St -> R St) (fun _ _ _ s => .ok s) (fun o _ ih k masks done s => St.rec (motive := fun _ => R St) (fun E H n W =>
    (fN (maskOf masks o)).bind fun mask => (fN (k + 1)).bind fun k' => ((hWant ops o).run E).bind fun b => Bool.rec (motive := fun _ => R St)
      (((hPut sz o.dst).run E undef).bind fun E => ih k' (mask :: masks) done ⟨E, H, n, W⟩)
      ((stepD P B call mask done E o H n).bind fun q => Prod.rec (motive := fun _ => R St) (fun r sees => Res.rec (motive := fun _ => R St) (fun v H' n' wr => R.if_ "value" (belowQ n' v) <| ((hPut sz o.dst).run E v).bind fun E => (addWQ n0 W wr).bind fun W =>
        ih k' (mask :: masks) (⟨k, sees, wr, n, n'⟩ :: done) ⟨E, H', n', W⟩) r) q) b) s) l
noncomputable def loopF (body : St -> R (Way × St)) (n : Nat) : St -> R (Way × St) :=
  Nat.rec (motive := fun _ => St -> R (Way × St)) (fun _ => .no ["loop- too long"]) (fun _ ih s => (body s).bind fun r => Way.casesOn r.1 (ih r.2) (fun id => .ok (.exit id, r.2)) (.ok (.ret, r.2))) n
noncomputable def codeF (P : Program) (B : Nat) (call : CallE) (lf sz n0 : Nat) (c : Code) : St -> R (Way × St) :=
  Code.rec (motive := fun _ => St -> R (Way × St)) (fun s => .ok (.normal, s))
    (fun _ ops draw s => (Bool.casesOn (motive := fun _ => R St) draw (opsF P B call sz n0 ops ops.toList s) (dropsF P B call sz n0 ops ops.toList 0 [] [] s)).bind fun s => .ok (.normal, s))
    (fun _ _ x y s => (x s).bind fun r => Way.casesOn r.1 (y r.2) (fun id => .ok (.exit id, r.2)) (.ok (.ret, r.2)))
    (fun c _ _ x y s => (evX B s.E c).bind fun v => (boolV v).bind fun b => Bool.casesOn b (y s) (x s))
    (fun id _ x s => (x s).bind fun r => Way.casesOn r.1 (.ok (.normal, r.2)) (fun j => Bool.casesOn (Nat.beq j id) (.ok (.exit j, r.2)) (.ok (.normal, r.2))) (.ok (.ret, r.2)))
    (fun _ x s => loopF x lf s)
    (fun _ _ _ _ _ _ _ => .no ["code"])
    (fun id s => .ok (.exit id, s))
    (fun _ x s => x s)
    (fun _ s => .ok (.normal, s))
    (fun _ _ => .no ["code"])
    (fun s => .ok (.ret, s))
    (fun _ _ => .no ["code"]) c
noncomputable def endF (P : Program) (fn : Func) (n : Nat) (s : St) : R Res :=
  St.rec (motive := fun _ => R Res) (fun E H n' W => (resultsE P ⟨E, H, n', W⟩ fn.results.toList).bind fun vs => (gc H n (resV vs) W).bind fun H' => .ok ⟨resV vs, H', n', W⟩) s
noncomputable def bodyF (P : Program) (B : Nat) (call : CallE) (lf : Nat) : CallE := fun f args H n => (R.of "function" (P.funcs[f]?)).bind fun fn => Option.rec (motive := fun _ => R Res) (R.say fn.name (externE P B f args H n))
    (fun c => (putArgs blank 0 args).bind fun E =>
      R.if_ "slots" (Nat.ble args.length fn.ntmps && Nat.ble fn.ntmps 255) <|
      (R.say fn.name (codeF P B call lf fn.ntmps n c ⟨E, H, n, []⟩)).bind fun r => Prod.rec (motive := fun _ => R Res) (fun way t => Way.rec (motive := fun _ => R Res) (endF P fn n t) (fun _ => .no ["exit"]) (endF P fn n t) way) r) fn.body
end
end V
end Go.Proofs.YtpjpdohdceabpaaGreatDoor

/-
  The faster form says nothing else.
-/
namespace Go.Proofs.YtpjpdohdceabpaaGreatDoor
open Go.RowKit
namespace V
set_option linter.unusedVariables false
def Le {α : Type} (x y : R α) : Prop := ∀ a, x = .ok a -> y = .ok a
theorem Le.refl {α : Type} (x : R α) : Le x x := fun _ h => h
theorem le_bind {α β : Type} {x y : R α} {f g : α -> R β} (h : Le x y) (k : ∀ a, Le (f a) (g a)) : Le (x.bind f) (y.bind g) := fun b hb => by
  obtain ⟨a, h1, h2⟩ := bind_ok hb
  rw [h a h1]
  exact k a b h2
theorem le_if {α : Type} {s : String} {b : Bool} {x y : R α} (h : Le x y) : Le (R.if_ s b x) (R.if_ s b y) := fun a ha => by
  obtain ⟨h1, h2⟩ := if_ok ha
  rw [h1]
  exact h a h2
theorem le_say {α : Type} {s : String} {x y : R α} (h : Le x y) : Le (R.say s x) (R.say s y) := fun a ha => by
  rw [h a (say_ok ha)]; rfl
theorem le_no {α : Type} {s : List String} {y : R α} : Le (.no s) y := fun a h => by cases h
theorem le_said {α : Type} {s : String} {x y : R α} (h : Le x y) : Le x (R.say s y) := fun a ha => by
  rw [h a ha]; rfl
def LeC (c c' : CallE) : Prop := ∀ f args H n, Le (c f args H n) (c' f args H n)
section
variable {P : Program} {B sz n0 lf : Nat} {c c' : CallE} {ops : Array Oper} [Low B]
theorem getP_le : ∀ (d n : Nat) (E : Tr), Le ((getP d n).run E) (E.get n)
  | 0, n, E => le_no
  | d + 1, 0, E => by cases E with
    | leaf => exact le_no
    | node v l r => exact Le.refl _
  | d + 1, m + 1, E => by
    cases E with
    | leaf =>
      simp only [getP]
      cases Nat.beq (m % 2) 0 <;> exact le_no
    | node v l r =>
      rw [Tr.get_succ]
      simp only [getP]
      cases Nat.beq (m % 2) 0
      · exact getP_le d _ r
      · exact getP_le d _ l
theorem putP_le : ∀ (d n : Nat) (E : Tr) (u : Value), Le ((putP d n).run E u) (E.put n u)
  | 0, n, E, u => le_no
  | d + 1, 0, E, u => by cases E with
    | leaf => exact le_no
    | node v l r => exact Le.refl _
  | d + 1, m + 1, E, u => by
    cases E with
    | leaf =>
      simp only [putP]
      cases Nat.beq (m % 2) 0 <;> exact le_no
    | node v l r =>
      rw [Tr.put_succ]
      simp only [putP]
      cases Nat.beq (m % 2) 0
      · exact le_bind (putP_le d _ r u) fun _ => Le.refl _
      · exact le_bind (putP_le d _ l u) fun _ => Le.refl _
theorem evH_le (x : Operand) (E : Tr) : Le ((evH B x).run E) (evX B E x) := by
  unfold evH
  split
  · exact getP_le _ _ _
  · rename_i v
    simp only [evX]
    cases below B deep v
    · exact le_no
    · exact fun a h => h
  · exact Le.refl _
theorem app_is {α : Type} : ∀ l : List α, ∃ q, app l [] = .ok q
  | [] => ⟨[], rfl⟩
  | a :: l => by
    obtain ⟨q, hq⟩ := app_is l
    exact ⟨a :: q, by simp only [app, hq]; rfl⟩
theorem evsH_le (E : Tr) : ∀ l : List Operand, Le ((evsH B l).run E) (evL B E l)
  | [] => Le.refl _
  | x :: l => by
    show Le (((evH B x).run E).bind fun v => ((evsH B l).run E).bind fun r => .ok (v :: r)) _
    simp only [evL]
    exact le_bind (evH_le x E) fun v => le_bind (evsH_le E l) fun r => Le.refl _
theorem nth_le : ∀ (l : List Value) (n : Nat) (s : String), Le (nth l n) (R.of s l[n]?)
  | [], n, s => le_no
  | v :: l, 0, s => Le.refl _
  | v :: l, m + 1, s => by
    show Le (nth l m) _
    rw [List.getElem?_cons_succ]
    exact nth_le l m s
theorem hPart_le (t : TypeId) (cs : List Value) (off : Nat) : Le ((hPart P t).run cs off) (partOf P t cs off) := by
  unfold hPart partOf
  cases getTy P t with
  | no s => exact le_no
  | ok d =>
    simp only [R.bind]
    cases tyAgg d
    · exact nth_le _ _ _
    · exact Le.refl _
theorem hnd_le (o : Oper) (E : Tr) (H : AH) (n : Nat) : Le ((hnd P B o).run E H n) (opE P B E o H n) := by
  unfold hnd opE
  split <;> rename_i ho <;> (first | (simp only [ho]; done) | skip)
  all_goals simp only [ho]
  all_goals first
    | exact Le.refl _
    | exact le_bind (evH_le _ _) fun v => Le.refl _
    | exact le_bind (evH_le _ _) fun u => le_bind (evH_le _ _) fun v => Le.refl _
    | skip
  · unfold ePick
    refine le_bind (evH_le _ _) fun v => le_bind (Le.refl _) fun b => le_bind ?_ fun _ => Le.refl _
    cases b
    · exact evH_le _ _
    · exact evH_le _ _
  · unfold eLoad
    exact le_bind (evH_le _ _) fun v => le_bind (Le.refl _) fun ad => le_bind (Le.refl _) fun b => le_bind (hPart_le _ _ _) fun _ => Le.refl _
  · unfold eExtract
    refine le_bind (evH_le _ _) fun v => ?_
    cases v with
    | tuple vs =>
      obtain ⟨l⟩ := vs
      refine le_bind ?_ fun _ => Le.refl _
      rw [List.getElem?_toArray]
      exact nth_le _ _ _
    | _ => exact le_no
theorem hndX_le (hc : LeC c c') (o : Oper) (E : Tr) (H : AH) (n : Nat) : Le ((hndX P B c o).run E H n) (exE P B c' E o H n) := by
  unfold hndX exE
  split
  · rename_i cl ho
    split
    · rename_i b hb
      refine fun a ha => ?_
      simp only [ho, hb]
      exact hnd_le o E H n a ha
    · rename_i g hb
      simp only [ho, hb]
      refine fun a ha => ?_
      have : Le (((evsH B cl.args.toList).run E).bind fun l => c g l H n) ((targetE B E cl).bind fun t => c' t.1 t.2 H n) := by
        unfold targetE
        intro a ha
        obtain ⟨l, h1, h2⟩ := bind_ok ha
        rw [evsH_le E _ l h1]
        simp only [hb, R.bind, evX]
        obtain ⟨q, hq⟩ : ∃ q, app l [] = .ok q := app_is l
        have hq' := app_ok hq
        rw [List.append_nil] at hq'
        subst hq'
        simp only [hq]
        exact hc g _ H n a h2
      exact this a ha
    · rename_i hb1 hb2
      have e : exE P B c' E o H n = (targetE B E cl).bind fun t => c' t.1 t.2 H n := by
        unfold exE
        simp only [ho]
      intro a ha
      simp only [ho]
      refine le_bind (Le.refl _) (fun t => ?_) a ha
      exact hc _ _ _ _
  · rename_i hne
    split
    · rename_i cl ho
      exact absurd ho (hne cl)
    · exact hnd_le o E H n
theorem exE_le (hc : LeC c c') (o : Oper) (E : Tr) (H : AH) (n : Nat) : Le (exE P B c E o H n) (exE P B c' E o H n) := by
  unfold exE
  split
  · split
    · exact Le.refl _
    · exact le_bind (Le.refl _) fun t => hc _ _ _ _
  · exact Le.refl _
theorem hWant_le (o : Oper) (E : Tr) : Le ((hWant ops o).run E) (wantE E ops o) := by
  unfold hWant wantE
  cases o.guard with
  | none => exact Le.refl _
  | some g =>
    obtain ⟨j, want⟩ := g
    simp only
    cases (ops[j]?).bind (·.dst) with
    | none => exact Le.refl _
    | some t =>
      cases want
      · refine le_bind (getP_le _ _ _) fun v => ?_
        cases v <;> first | exact Le.refl _ | (rename_i b; cases b <;> exact Le.refl _)
      · refine le_bind (getP_le _ _ _) fun v => ?_
        cases v <;> first | exact Le.refl _ | (rename_i b; cases b <;> exact Le.refl _)
theorem hPut_le (d : Option Tmp) (E : Tr) (v : Value) : Le ((hPut sz d).run E v) (putD sz E d v) := by
  unfold hPut putD
  cases d with
  | none => exact Le.refl _
  | some t =>
    simp only
    cases hb : Nat.ble (t + 1) sz with
    | true => exact putP_le _ _ _ _
    | false => exact le_no
theorem belowQ_ok {n : Nat} {v : Value} (h : belowQ n v = true) : below n deep v = true := by
  unfold belowQ at h
  split at h
  · rfl
  · rfl
  · rfl
  · exact h
theorem addWQ_eq {W wr : List Nat} : addWQ n0 W wr = addW n0 W wr := by cases wr <;> rfl
theorem step1_eq {run : Tr -> AH -> Nat -> R Res} {put : Tr -> Value -> R Tr} {k : St -> R St} (s : St) :
    step1 run put n0 k s = (run s.E s.H s.n).bind fun r => R.if_ "value" (belowQ r.n r.v) <| (put s.E r.v).bind fun E => (addWQ n0 s.W r.wr).bind fun W => k ⟨E, r.H, r.n, W⟩ := rfl
theorem opsF_nil (s : St) : opsF P B c sz n0 ops [] s = .ok s := rfl
theorem opsF_cons (o : Oper) (l : List Oper) (s : St) : opsF P B c sz n0 ops (o :: l) s = stepF (hWant ops o).run (hndX P B c o).run (hPut sz o.dst).run n0 (opsF P B c sz n0 ops l) s := rfl
theorem opsF_le (hc : LeC c c') : ∀ (l : List Oper) (s : St), Le (opsF P B c sz n0 ops l s) (opsE P B c' sz n0 ops l s)
  | [], s => by rw [opsF_nil]; exact Le.refl _
  | o :: l, s => by
    rw [opsF_cons]
    unfold stepF
    simp only [opsE]
    refine le_bind (hWant_le _ _) fun b => ?_
    cases b with
    | false => exact le_bind (hPut_le _ _ _) fun E => opsF_le hc l _
    | true =>
      show Le (step1 _ _ _ _ _) _
      rw [step1_eq]
      refine le_bind (le_said (hndX_le hc o _ _ _)) fun r => ?_
      intro a ha
      obtain ⟨h1, h2⟩ := if_ok ha
      rw [belowQ_ok h1]
      refine le_bind (hPut_le _ _ _) (fun E => ?_) a h2
      rw [addWQ_eq]
      exact le_bind (Le.refl _) fun W => opsF_le hc l _
theorem stepD_le (hc : LeC c c') (mask : Nat) (done : List Done) (E : Tr) (o : Oper) (H : AH) (n : Nat) : Le (stepD P B c mask done E o H n) (stepD P B c' mask done E o H n) := by
  unfold stepD
  split
  · exact le_bind (exE_le hc _ _ _ _) fun r => Le.refl _
  · exact le_if (le_bind (Le.refl _) fun ob => le_bind (exE_le hc _ _ _ _) fun r => Le.refl _)
  · split
    · exact le_bind (exE_le hc _ _ _ _) fun r => Le.refl _
    · exact le_bind (Le.refl _) fun p => le_bind (exE_le hc _ _ _ _) fun r => Le.refl _
theorem dropsF_nil (k : Nat) (masks : List Nat) (done : List Done) (s : St) : dropsF P B c sz n0 ops [] k masks done s = .ok s := rfl
theorem dropsF_cons (o : Oper) (l : List Oper) (k : Nat) (masks : List Nat) (done : List Done) (s : St) : dropsF P B c sz n0 ops (o :: l) k masks done s =
    (fN (maskOf masks o)).bind fun mask => (fN (k + 1)).bind fun k' => ((hWant ops o).run s.E).bind fun b => Bool.rec (motive := fun _ => R St)
      (((hPut sz o.dst).run s.E undef).bind fun E => dropsF P B c sz n0 ops l k' (mask :: masks) done ⟨E, s.H, s.n, s.W⟩)
      ((stepD P B c mask done s.E o s.H s.n).bind fun q => R.if_ "value" (belowQ q.1.n q.1.v) <| ((hPut sz o.dst).run s.E q.1.v).bind fun E => (addWQ n0 s.W q.1.wr).bind fun W =>
        dropsF P B c sz n0 ops l k' (mask :: masks) (⟨k, q.2, q.1.wr, s.n, q.1.n⟩ :: done) ⟨E, q.1.H, q.1.n, W⟩) b := rfl
theorem dropsF_le (hc : LeC c c') : ∀ (l : List Oper) (k : Nat) (masks : List Nat) (done : List Done) (s : St), Le (dropsF P B c sz n0 ops l k masks done s) (dropsE P B c' sz n0 ops l k masks done s)
  | [], k, masks, done, s => by rw [dropsF_nil]; exact Le.refl _
  | o :: l, k, masks, done, s => by
    rw [dropsF_cons]
    simp only [dropsE]
    refine le_bind (Le.refl _) fun mask => le_bind (Le.refl _) fun k' => le_bind (hWant_le _ _) fun b => ?_
    cases b with
    | false => exact le_bind (hPut_le _ _ _) fun E => dropsF_le hc l _ _ _ _
    | true =>
      refine le_bind (le_said (stepD_le hc _ _ _ _ _ _)) fun q => ?_
      intro a ha
      obtain ⟨h1, h2⟩ := if_ok ha
      rw [belowQ_ok h1]
      refine le_bind (hPut_le _ _ _) (fun E => ?_) a h2
      rw [addWQ_eq]
      exact le_bind (Le.refl _) fun W => dropsF_le hc l _ _ _ _
theorem loopF_le {f g : St -> R (Way × St)} (h : ∀ s, Le (f s) (g s)) : ∀ (n : Nat) (s : St), Le (loopF f n s) (loopE g n s)
  | 0, s => le_no
  | n + 1, s => by
    show Le ((f s).bind _) _
    simp only [loopE]
    refine le_bind (h s) fun r => ?_
    obtain ⟨way, s1⟩ := r
    cases way with
    | normal => exact loopF_le h n s1
    | exit id => exact Le.refl _
    | ret => exact Le.refl _
theorem codeF_le (hc : LeC c c') : ∀ (x : Code) (s : St), Le (codeF P B c lf sz n0 x s) (codeE P B c' lf sz n0 x s)
  | .skip, s => by simp only [codeE]; exact Le.refl _
  | .region id ops draw, s => by
    show Le (R.bind _ _) _
    simp only [codeE]
    refine le_bind ?_ fun s => Le.refl _
    cases draw with
    | true => exact dropsF_le hc _ _ _ _ _
    | false => exact opsF_le hc _ _
  | .seq x y, s => by
    show Le ((codeF P B c lf sz n0 x s).bind _) _
    simp only [codeE]
    refine le_bind (codeF_le hc x s) fun r => ?_
    obtain ⟨way, s1⟩ := r
    cases way with
    | normal => exact codeF_le hc y s1
    | exit id => exact Le.refl _
    | ret => exact Le.refl _
  | .cond k x y, s => by
    show Le ((evX B s.E k).bind _) _
    simp only [codeE]
    refine le_bind (Le.refl _) fun v => le_bind (Le.refl _) fun b => ?_
    cases b with
    | true => exact codeF_le hc x s
    | false => exact codeF_le hc y s
  | .block id x, s => by
    show Le ((codeF P B c lf sz n0 x s).bind _) _
    simp only [codeE]
    refine le_bind (codeF_le hc x s) fun r => ?_
    obtain ⟨way, s1⟩ := r
    cases way with
    | normal => exact Le.refl _
    | exit j =>
      show Le (Bool.casesOn (motive := fun _ => R (Way × St)) (Nat.beq j id) _ _) _
      simp only
      cases Nat.beq j id <;> exact Le.refl _
    | ret => exact Le.refl _
  | .loop x, s => by
    show Le (loopF (codeF P B c lf sz n0 x) lf s) _
    simp only [codeE]
    exact loopF_le (codeF_le hc x) lf s
  | .rangeFunc _ _ _ _, s => le_no
  | .exit id, s => by simp only [codeE]; exact Le.refl _
  | .scope x, s => by
    show Le (codeF P B c lf sz n0 x s) _
    simp only [codeE]
    exact codeF_le hc x s
  | .label l, s => by simp only [codeE]; exact Le.refl _
  | .goto l, s => le_no
  | .ret, s => by simp only [codeE]; exact Le.refl _
  | .refuse _, s => le_no
theorem bodyF_le (hc : LeC c c') (lf : Nat) : LeC (bodyF P B c lf) (bodyE P B c' lf) := fun f args H n => by
  unfold bodyF bodyE
  refine le_bind (Le.refl _) fun fn => ?_
  cases hb : fn.body with
  | none => exact Le.refl _
  | some x =>
    refine le_bind (Le.refl _) fun E => le_if (le_bind (le_say (codeF_le hc x _)) fun r => ?_)
    obtain ⟨way, s1⟩ := r
    cases way <;> exact Le.refl _
end
end V
end Go.Proofs.YtpjpdohdceabpaaGreatDoor
