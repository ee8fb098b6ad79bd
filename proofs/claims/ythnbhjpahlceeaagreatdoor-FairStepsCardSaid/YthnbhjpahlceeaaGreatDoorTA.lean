/-
  Words on memory: slices that read as lists of dots, results of calls, worlds that only grow.
-/
import Derived.Test.YthnbhjpahlceeaaGreatDoorProg
import Derived.WalkKit
import Derived.WalkSpells
import Derived.WalkLawsBesides
import Derived.Lib.Hide
import Derived.Outline
import Derived.Deep.QuietTactic
import Derived.BigQuiet
import Derived.Deep.Draws
import Derived.Deep.RegionHeld3
import Derived.Deep.DeepCutAuto
import Derived.Handy
import Derived.Shelf.Abstract
set_option maxRecDepth 100000
set_option maxHeartbeats 8000000
set_option linter.unusedSectionVars false
set_option linter.unusedVariables false
set_option linter.unusedSimpArgs false
set_option maxRecDepth 100000
set_option maxHeartbeats 8000000
namespace Go.Proofs.YthnbhjpahlceeaaGreatDoor
open Go.RowKit
theorem Avp {p:Prop} (h:p):Hid p:=h
abbrev Dot:=Int×Int
def Small (n:Nat):Prop:=n<=1000000
theorem Small.out {n:Nat} (h:Small n):n<=1000000:=h
def Ret (w:World) (F:World->Value->Prop) (e:Ending) (w':World):Prop:=∃ v,e = .returned v∧Below w.heap.size w w'∧F w' v
def Is (x:Value) (_:World) (v:Value):Prop:=v=x
abbrev IsB (b:Bool):=Is (.bool b)
abbrev IsI (n:Int):=Is (.int .i64 n)
theorem Rp {W w1:World} (hb:Below W.heap.size W w1):(∀ b o,b<W.heap.size->w1.cell? ⟨b,o,none⟩=W.cell? ⟨b,o,none⟩)∧(∀ b o,b<W.heap.size->w1.frozen? ⟨b,o,none⟩=W.frozen? ⟨b,o,none⟩):=
 ⟨fun b o h=>hb.cell (p:=⟨b,o,none⟩) h,fun b o h=>hb.frozen (p:=⟨b,o,none⟩) h⟩
theorem _root_.Go.RowKit.Below.le {a b c:World} (h:Below a.heap.size a b) (k:Below b.heap.size b c):Below a.heap.size a c:=h.trans (k.mono h.size)
theorem _root_.Go.RowKit.Below.drewN' {B:Nat} {a w:World} (h:Below B a w) (n:Nat):Below B a (w.drewN n):=h.trans ⟨rfl,rfl,rfl,Nat.le_refl _,fun _ _=>rfl⟩
theorem _root_.Go.RowKit.Below.ofDrew {w w1:World} (h:Below w.drew.heap.size w.drew w1):Below w.heap.size w w1:=(Below.refl _ w).drew.trans h
theorem Ad {w w1:World} {a:Addr} {v:Value} (hb:Below w.heap.size w w1) (h:w.cell? a=some v):w1.cell? a=some v:=(hb.cell (World.block_lt_of_cell? w a h)).trans h
structure Bc (w:World) (A:Option Addr) (n c:Nat) (l:List Dot):Prop where
 len:n=l.length
 cap:n<=c
 max:c<=maxLen
 nil:A=none->c=0
 cell:∀ i d,l[i]?=some d->∃ b o,A=some ⟨b,o,none⟩∧b<w.heap.size∧w.cell? ⟨b,o+i*2,none⟩=some (.int .i64 d.1)∧w.cell? ⟨b,o+i*2+1,none⟩=some (.int .i64 d.2)
section
variable {w w':World} {A:Option Addr} {n c:Nat} {l:List Dot}
theorem Bc.mono (h:Bc w A n c l) (hb:Below w.heap.size w w'):Bc w' A n c l:=
 ⟨h.len,h.cap,h.max,h.nil,fun i d hi=>by
  obtain⟨b,o,rfl,hlt,h1,h2⟩:=h.cell i d hi
  exact⟨b,o,rfl,Nat.lt_of_lt_of_le hlt hb.size,(hb.cell (p:=⟨b,_,none⟩) hlt).trans h1,(hb.cell (p:=⟨b,_,none⟩) hlt).trans h2⟩⟩
theorem Bc.big (h:Bc w A n c l):n<=9223372036854775807:=by have:=h.cap;have:=h.max;unfold maxLen at this;omega
theorem Bc.nil_:Bc w none 0 0 []:=⟨rfl,Nat.le_refl _,by unfold maxLen;omega,fun _=>rfl,fun i d h=>by simp at h⟩
theorem Bc.at_ (h:Bc w A n c l) {k:Nat} (hk:k<n):∃ b o x y,A=some ⟨b,o,none⟩∧b<w.heap.size∧l[k]?=some (x,y)∧l.drop k=(x,y)::l.drop (k+1)∧
  w.cell? ⟨b,o+k*2,none⟩=some (.int .i64 x)∧w.cell? ⟨b,o+k*2+1,none⟩=some (.int .i64 y):=by
 have hl:k<l.length:=by have:=h.len;omega
 obtain⟨b,o,e,hb,h1,h2⟩:=h.cell k l[k] (List.getElem?_eq_getElem hl)
 exact⟨b,o,l[k].1,l[k].2,e,hb,List.getElem?_eq_getElem hl,by rw[List.drop_eq_getElem_cons hl],h1,h2⟩
end
def deq (a b:Dot):Bool:=a==b
theorem Mw {a b:Dot}:deq a b=true↔a=b:=by unfold deq;exact beq_iff_eq
theorem Ad0 {a b:Dot}:deq a b=false↔a≠b:=by unfold deq;exact beq_eq_false_iff_ne
theorem Pa (x y u v:Int) (w:World):(binOp .eql 224 (.agg #[.int .i64 x,.int .i64 y]) (.agg #[.int .i64 u,.int .i64 v])).run Tryz.prog w = .ok (.bool (deq (x,y) (u,v))) w:=by
 have e:deq (x,y) (u,v)=(decide (x=u)&&decide (y=v)):=by unfold deq;rw[Bool.eq_iff_iff];simp
 rw[e]
 simp[go_sem]
 by_cases h:x=u <;> by_cases h':y=v <;> simp[h,h']
theorem Od (x y u v:Int) (w:World):(binOp .neq 224 (.agg #[.int .i64 x,.int .i64 y]) (.agg #[.int .i64 u,.int .i64 v])).run Tryz.prog w = .ok (.bool (!deq (x,y) (u,v))) w:=by
 have e:deq (x,y) (u,v)=(decide (x=u)&&decide (y=v)):=by unfold deq;rw[Bool.eq_iff_iff];simp
 rw[e]
 simp[go_sem]
 by_cases h:x=u <;> by_cases h':y=v <;> simp[h,h']
attribute [go_sem ↓] Pa Od
class Grows (F:World->Value->Prop):Prop where
 up:∀ {w w':World} {v:Value},Below w.heap.size w w'->F w v->F w' v
instance (x:Value):Grows (Is x):=⟨fun _ h=>h⟩
abbrev VT:=World->Value->Prop
def Bl (o:Oper) (j:Nat):Bool:=o.after.toList.any fun e=>e.on==j&&Region.binds .any e
def Ao (ops:List Oper):List (Option Tmp):=ops.map (·.dst)
structure Cx (ops:List Oper) (Fs:List VT) (w0:World) (a0:Act) (i:Nat) (o:Oper) (a:Act) (w:World):Prop where
 le:Below w0.heap.size w0 w
 defers:a.defers=a0.defers
 size:a.tmps.size=a0.tmps.size
 old:∀ t,some t∉Ao ops->a.tmps.getD t undef=a0.tmps.getD t undef
 new:∀ (j:Nat) (oj:Oper) (d:Tmp) (G:VT),Bl o j=true->ops[j]?=some oj->oj.dst=some d->Fs[j]?=some G->G w (a.tmps.getD d undef)
 late:∀ (j:Nat) (oj:Oper) (d:Tmp),ops[j]?=some oj->Bl oj i=true->oj.dst=some d->a.tmps.getD d undef=a0.tmps.getD d undef
def Ob (P:Program) (ops:List Oper) (Fs:List VT) (w0:World) (a0:Act) (i:Nat) (o:Oper) (F:VT):Prop:=
 ∀ a w,Cx ops Fs w0 a0 i o a w ->
  if Region.wanted o (yielded ops.toArray a.tmps)=true then o.wp P a w (fun a' w'=>∃ v,a'=a.put o.dst v∧Below w.heap.size w w'∧F w' v) (fun _ _ _=>False) else F w undef
def Bq (Q:Exit->Act->World->Prop):List (Option Tmp)->List VT->Act->World->Prop
 | d::ds,F::Fs,a,w=>∀ v,F w v->Bq Q ds Fs (a.put d v) w
 | _,_,a,w=>Q .normal a w
def Pj (P:Program) (ops:List Oper) (w0:World) (a0:Act) (Q:Exit->Act->World->Prop):List Oper->List VT->Prop
 | o::os,Fs=>∃ F:VT,Grows F∧Ob P ops Fs w0 a0 Fs.length o F∧Pj P ops w0 a0 Q os (Fs++[F])
 | [],Fs=>∀ w,Below w0.heap.size w0 w->Bq Q (Ao ops) Fs a0 w
def okM (n:Nat):Nat->List Oper->List Tmp->Bool
 | _,[],_=>true
 | i,o::os,seen=>(match o.dst with | some d=>decide (d<n) && !seen.contains d&&okM n (i+1) os (d::seen) | none=>false)&&o.after.toList.all fun e=>decide (e.on<i)
section
variable {P:Program} {ops:List Oper} {w0:World} {a0:Act} {Q:Exit->Act->World->Prop}
theorem Ix {n:Nat}:∀ {l:List Oper} {i:Nat} {seen:List Tmp},okM n i l seen=true ->
  (∀ (j:Nat) (o:Oper),l[j]?=some o->(∃ d,o.dst=some d∧d<n∧d∉seen)∧∀ e∈o.after,e.on<i+j)∧(∀ (j k:Nat) (o q:Oper),l[j]?=some o->l[k]?=some q->o.dst=q.dst->j=k)
 | [],i,seen,_=>⟨fun j o h=>by simp at h,fun j k o q h=>by simp at h⟩
 | o::os,i,seen,h=>by
  simp only[okM] at h
  cases hd:o.dst with
  | none=>simp[hd] at h
  | some d=>
   simp only[hd,Bool.and_eq_true,decide_eq_true_eq,Bool.not_eq_true'] at h
   obtain⟨⟨⟨h1,h2⟩,h3⟩,h4⟩:=h
   obtain⟨r1,r2⟩:=Ix h3
   have hs:d∉seen:=by simpa using h2
   have fresh:∀ (j:Nat) (q:Oper),os[j]?=some q->q.dst≠some d:=fun j q hq e=>by
    obtain⟨⟨d',e',_,hn⟩,_⟩:=r1 j q hq
    rw[e] at e';cases e';exact hn (List.mem_cons_self ..)
   refine⟨fun j q hq=>?_,fun j k q q' hq hq' e=>?_⟩
   ·cases j with
    | zero=>
     simp at hq;subst hq
     refine⟨⟨d,hd,h1,hs⟩,fun e he=>?_⟩
     have:=List.all_eq_true.1 h4 e (by simpa using he)
     simpa using this
    | succ j=>
     simp at hq
     obtain⟨⟨d',e',l',hn⟩,he⟩:=r1 j q hq
     exact⟨⟨d',e',l',fun hm=>hn (List.mem_cons_of_mem _ hm)⟩,fun e hm=>by have:=he e hm;omega⟩
   ·cases j with
    | zero=>
     cases k with
     | zero=>rfl
     | succ k=>simp at hq hq';subst hq;exact absurd (e.symm.trans hd) (fresh k q' hq')
    | succ j=>
     cases k with
     | zero=>simp at hq hq';subst hq';exact absurd (e.trans hd) (fresh j q hq)
     | succ k=>simp at hq hq';rw[r2 j k q q' hq hq' e]
theorem Pj.all:∀ {os:List Oper} {Fs:List VT} (_:Pj P ops w0 a0 Q os Fs) (pre:List Oper) (_:pre.length=Fs.length) (_:ops=pre++os) (_:∀ (i:Nat) (o:Oper) (F:VT),pre[i]?=some o->Fs[i]?=some F->Grows F∧Ob P ops Fs w0 a0 i o F),
  ∃ Gs:List VT,Gs.length=ops.length∧(∀ (i:Nat) (o:Oper) (F:VT),ops[i]?=some o->Gs[i]?=some F->Grows F∧Ob P ops Gs w0 a0 i o F)∧∀ w,Below w0.heap.size w0 w->Bq Q (Ao ops) Gs a0 w
 | [],Fs,h,pre,hl,ho,hp=>by
  refine⟨Fs,by rw[ho];simp[hl],fun i o F hi hF=>hp i o F (by rw[ho] at hi;simpa using hi) hF,h⟩
 | o::os,Fs,⟨F,hF,hob,k⟩,pre,hl,ho,hp=>by
  have weak:∀ (i:Nat) (q:Oper) (G:VT),Ob P ops Fs w0 a0 i q G->Ob P ops (Fs++[F]) w0 a0 i q G:=fun i q G hq a w cx=>
   hq a w ⟨cx.le,cx.defers,cx.size,cx.old,fun j oj d G' he h1 h2 h3=>cx.new j oj d G' he h1 h2 (by
    rw[List.getElem?_append_left (List.getElem?_eq_some_iff.1 h3).1];exact h3),cx.late⟩
  refine Pj.all k (pre++[o]) (by simp[hl]) (by simp[ho]) (fun i q G hi hG=>?_)
  rcases Nat.lt_or_ge i pre.length with hlt | hge
  ·rw[List.getElem?_append_left hlt] at hi
   rw[List.getElem?_append_left (by omega)] at hG
   obtain⟨g1,g2⟩:=hp i q G hi hG
   exact⟨g1,weak _ _ _ g2⟩
  ·have hi':i=pre.length:=by
    have:=(List.getElem?_eq_some_iff.1 hi).1
    simp at this;omega
   subst hi'
   rw[hl] at hG
   simp at hi hG
   subst hi;subst hG
   exact⟨hF,by rw[hl];exact weak _ _ _ hob⟩
theorem Oper.wp_noQ {o:Oper} {a:Act} {w:World} {K:Act->World->Prop} (h:o.wp P a w K (fun _ _ _=>False)):o.wp P a w K Q:=by
 unfold Oper.wp at *
 generalize (execOp a.eval o).run P w=r at *
 cases r with
 | ok n w'=>
  cases n <;> simp only[Oper.upon] at h ⊢ <;>
   first
    | exact h
    | exact Calls.mono h (fun e w'' he=>by
      cases e with
      | returned v=>exact he
      | panicked c=>exact he.elim
      | outgrown=>obtain⟨_,_,hf⟩:=he;exact hf.elim)
 | halt x w'=>cases x <;> simp only[Oper.upon] at h ⊢
structure Pn (ops:List Oper) (Gs:List VT) (w0:World) (a0:Act) (listed:Array Bool) (a:Act) (w:World):Prop where
 le:Below w0.heap.size w0 w
 defers:a.defers=a0.defers
 size:a.tmps.size=a0.tmps.size
 lsize:ops.length<=listed.size
 old:∀ t,some t∉Ao ops->a.tmps.getD t undef=a0.tmps.getD t undef
 done:∀ (j:Nat) (oj:Oper) (d:Tmp) (G:VT),listed[j]?=some true->ops[j]?=some oj->oj.dst=some d->Gs[j]?=some G->G w (a.tmps.getD d undef)
 closed:∀ (j:Nat) (oj:Oper) (i:Nat),listed[j]?=some true->ops[j]?=some oj->Bl oj i=true->listed[i]?=some true
 todo:∀ (j:Nat) (oj:Oper) (d:Tmp),listed[j]?=some false->ops[j]?=some oj->oj.dst=some d->a.tmps.getD d undef=a0.tmps.getD d undef
theorem Jv {a:Act} {d t:Tmp} {v:Value}:(a.put (some d) v).tmps.getD t undef=if d=t∧d<a.tmps.size then v else a.tmps.getD t undef:=by
 simp only[Act.put,Array.getD_eq_getD_getElem?,Array.getElem?_setIfInBounds]
 by_cases h:d=t
 ·subst h
  by_cases h2:d<a.tmps.size <;> simp[h2]
 ·simp[h]
theorem Pn.put {Gs:List VT} {listed:Array Bool} {a:Act} {w w':World} (hok:okM a0.tmps.size 0 ops []=true) (hg:∀ (i:Nat) (F:VT),Gs[i]?=some F->Grows F) (h:Pn ops Gs w0 a0 listed a w) (hb:Below w.heap.size w w')
  {i:Nat} {o:Oper} {v:Value} (hi:ops[i]?=some o) (hed:∀ j,Bl o j=true->listed[j]?=some true) (hv:∀ G,Gs[i]?=some G->G w' v):Pn ops Gs w0 a0 (listed.setIfInBounds i true) (a.put o.dst v) w':=by
 obtain⟨s1,s2⟩:=Ix hok
 obtain⟨⟨d,hd,hdn,_⟩,_⟩:=s1 i o hi
 have hil:i<ops.length:=(List.getElem?_eq_some_iff.1 hi).1
 have hls:i<listed.size:=Nat.lt_of_lt_of_le hil h.lsize
 rw[hd]
 refine⟨h.le.le hb,h.defers,by simp[Act.put,h.size],by simpa using h.lsize,fun t ht=>?_,fun j oj dj G hj ho hdj hG=>?_,fun j oj dj hj ho hdj=>?_,fun j oj dj hj ho hdj=>?_⟩
 ·rw[Jv,if_neg,h.old t ht]
  rintro⟨rfl,_⟩
  exact ht (List.mem_map.2 ⟨o,List.mem_of_getElem? hi,hd⟩)
 ·by_cases hji:j=i
  ·subst hji
   rw[hi] at ho;cases ho
   rw[hd] at hdj;cases hdj
   rw[Jv,if_pos ⟨rfl,by rw[h.size];exact hdn⟩]
   exact hv G hG
  ·rw[Array.getElem?_setIfInBounds_ne (fun e=>hji e.symm)] at hj
   rw[Jv,if_neg]
   ·exact(hg j G hG).up hb (h.done j oj dj G hj ho hdj hG)
   ·rintro⟨rfl,_⟩
    exact hji (s2 j i oj o ho hi (hdj.trans hd.symm))
 ·have tr:∀ k:Nat,listed[k]?=some true->(listed.setIfInBounds i true)[k]?=some true:=fun k hk=>by
   by_cases hki:i=k
   ·subst hki;simp[hls]
   ·rw[Array.getElem?_setIfInBounds_ne hki];exact hk
  by_cases hji:j=i
  ·subst hji
   rw[hi] at ho;cases ho
   exact tr _ (hed _ hdj)
  ·rw[Array.getElem?_setIfInBounds_ne (fun e=>hji e.symm)] at hj
   exact tr _ (h.closed j oj dj hj ho hdj)
 ·by_cases hji:j=i
  ·subst hji
   simp[hls] at hj
  ·rw[Array.getElem?_setIfInBounds_ne (fun e=>hji e.symm)] at hj
   rw[Jv,if_neg]
   ·exact h.todo j oj dj hj ho hdj
   ·rintro⟨rfl,_⟩
    exact hji (s2 j i oj o ho hi (hdj.trans hd.symm))
theorem Ni {a:Act} {w:World}:∀ (os:List Oper) (Fs:List VT) (b:Act),(∀ (j:Nat) (o:Oper) (d:Tmp) (F:VT),os[j]?=some o->o.dst=some d->Fs[j]?=some F->F w (a.tmps.getD d undef)) ->
  os.length=Fs.length->(∀ o∈os,o.dst≠none)->b.defers=a.defers->b.tmps.size=a.tmps.size->(∀ t,some t∉Ao os->b.tmps.getD t undef=a.tmps.getD t undef)->Bq Q (Ao os) Fs b w->Q .normal a w
 | [],[],b,_,_,_,hd,hs,ht,h=>by
  have:b=a:=by
   obtain⟨bt,bd⟩:=b;obtain⟨at_,ad⟩:=a
   simp only at hd hs ht
   subst hd
   congr 1
   refine Array.ext hs fun k h1 h2=>?_
   have:=ht k (by simp[Ao])
   simpa [Array.getD_eq_getD_getElem?,h1,h2] using this
  subst this
  exact h
 | o::os,F::Fs,b,hf,hl,hn,hd,hs,ht,h=>by
  cases hdo:o.dst with
  | none=>exact absurd hdo (hn o (List.mem_cons_self ..))
  | some d=>
   have h':∀ v,F w v->Bq Q (Ao os) Fs (b.put o.dst v) w:=h
   rw[hdo] at h'
   refine Ni os Fs (b.put (some d) (a.tmps.getD d undef)) (fun j q d' F' h1 h2 h3=>hf (j+1) q d' F' (by simpa using h1) h2 (by simpa using h3)) (by simpa using hl) (fun q hq=>hn q (List.mem_cons_of_mem _ hq)) hd (by simp[Act.put,hs]) (fun t ht'=>?_) (h' _ (hf 0 o d F rfl hdo rfl))
   rw[Jv]
   split
   ·rename_i hc;rw[hc.1]
   ·rename_i hc
    by_cases hdt:d=t
    ·subst hdt
     have hge:b.tmps.size<=d:=by rcases Nat.lt_or_ge d b.tmps.size with h1 | h1;exact absurd ⟨rfl,h1⟩ hc;exact h1
     simp[Array.getD_eq_getD_getElem?,Array.getElem?_eq_none hge,Array.getElem?_eq_none (hs ▸ hge)]
    ·refine ht t ?_
     simp only[Ao,List.map_cons,List.mem_cons,not_or]
     exact⟨fun e=>hdt (by rw[hdo] at e;cases e;rfl),ht'⟩
def Bh (listed:Array Bool):Nat:=listed.toList.countP (fun b=>!b)
theorem Ei {listed:Array Bool} {i:Nat} (h:listed[i]?=some false):Bh (listed.setIfInBounds i true)+1=Bh listed:=by
 obtain⟨l⟩:=listed
 simp only[Bh,List.setIfInBounds_toArray]
 simp only[List.getElem?_toArray] at h
 induction l generalizing i with
 | nil=>simp at h
 | cons b l ih=>
  cases i with
  | zero=>simp at h;subst h;simp
  | succ i=>simp at h;simp[List.countP_cons];have:=ih h;omega
theorem Vq {Gs:List VT} (hok:okM a0.tmps.size 0 ops []=true) (hlen:Gs.length=ops.length) (hobs:∀ (i:Nat) (o:Oper) (F:VT),ops[i]?=some o->Gs[i]?=some F->Grows F∧Ob P ops Gs w0 a0 i o F)
  (hend:∀ w,Below w0.heap.size w0 w->Bq Q (Ao ops) Gs a0 w):∀ (fuel:Nat) (listed:Array Bool) (a:Act) (w:World),Pn ops Gs w0 a0 listed a w->Bh listed=fuel->wpAny P .any ops.toArray Q fuel listed a w:=by
 obtain⟨s1,s2⟩:=Ix hok
 have fin:∀ (listed:Array Bool) (a:Act) (w:World),Pn ops Gs w0 a0 listed a w->Region.ready .any ops.toArray listed=[]->Q .normal a w:=by
  intro listed a w h hr
  have all:∀ j,j<ops.length->listed[j]?=some true:=by
   intro j
   induction j using Nat.strongRecOn with
   | _ j ih=>
    intro hj
    have hs:j<listed.size:=Nat.lt_of_lt_of_le hj h.lsize
    cases hb:listed[j] with
    | true=>rw[Array.getElem?_eq_getElem hs,hb]
    | false=>
     exfalso
     have:j∈Region.ready .any ops.toArray listed:=mem_ready.2 ⟨by simp[Array.getD_eq_getD_getElem?,hs,hb],ops[j],by simp[hj],fun e he _=>by
      have:=(s1 j ops[j] (List.getElem?_eq_getElem hj)).2 e he
      have h2:=ih e.on (by omega) (by omega)
      simp[Array.getD_eq_getD_getElem?,h2]⟩
     rw[hr] at this
     cases this
  refine Ni ops Gs a0 (fun j o d F h1 h2 h3=>h.done j o d F (all j (List.getElem?_eq_some_iff.1 h1).1) h1 h2 h3) hlen.symm (fun o ho=>?_) h.defers.symm h.size.symm (fun t ht=>(h.old t ht).symm) (hend w h.le)
  obtain⟨j,hj⟩:=List.getElem?_of_mem ho
  obtain⟨⟨d,hd,_⟩,_⟩:=s1 j o hj
  rw[hd];simp
 intro fuel
 induction fuel with
 | zero=>
  intro listed a w h hu
  have hr:Region.ready .any ops.toArray listed=[]:=by
   rw[List.eq_nil_iff_forall_not_mem]
   intro j hj
   obtain⟨h0,o,ho,_⟩:=mem_ready.1 hj
   have hjl:j<listed.size:=by have:=(Array.getElem?_eq_some_iff.1 ho).1;have h2:=h.lsize;simp at this;omega
   have hf:listed[j]=false:=by simpa [Array.getD_eq_getD_getElem?,hjl] using h0
   have:0<Bh listed:=by
    unfold Bh
    rw[List.countP_pos_iff]
    exact⟨listed[j],by simp,by rw[hf];rfl⟩
   omega
  exact⟨hr,fin listed a w h hr⟩
 | succ fuel ih=>
  intro listed a w h hu
  refine⟨fin listed a w h,fun i hi=>?_⟩
  obtain⟨h0,o,ho,hall⟩:=mem_ready.1 hi
  have ho':ops[i]?=some o:=by simpa using ho
  have hil:i<ops.length:=(List.getElem?_eq_some_iff.1 ho').1
  have hjl:i<listed.size:=Nat.lt_of_lt_of_le hil h.lsize
  have hf:listed[i]?=some false:=by
   rw[Array.getElem?_eq_getElem hjl]
   simpa [Array.getD_eq_getD_getElem?,hjl] using h0
  have hGi:i<Gs.length:=by omega
  obtain⟨hgr,hob⟩:=hobs i o Gs[i] ho' (List.getElem?_eq_getElem hGi)
  have hg:∀ (j:Nat) (F:VT),Gs[j]?=some F->Grows F:=fun j F hj=>by
   have hjo:j<ops.length:=by rw[<-hlen];exact(List.getElem?_eq_some_iff.1 hj).1
   exact(hobs j ops[j] F (List.getElem?_eq_getElem hjo) hj).1
  have edge:∀ j,Bl o j=true->listed[j]?=some true:=fun j he=>by
   unfold Bl at he
   rw[List.any_eq_true] at he
   obtain⟨e,hm,he⟩:=he
   simp only[Bool.and_eq_true,beq_iff_eq] at he
   have h1:=hall e (by simpa using hm) he.2
   have h2:=(s1 i o ho').2 e (by simpa using hm)
   rw[he.1] at h1 h2
   have hj2:j<listed.size:=by omega
   rw[Array.getElem?_eq_getElem hj2]
   simpa [Array.getD_eq_getD_getElem?,hj2] using h1
  have cx:Cx ops Gs w0 a0 i o a w:=⟨h.le,h.defers,h.size,h.old,fun j oj d G he h1 h2 h3=>h.done j oj d G (edge j he) h1 h2 h3,fun j oj d h1 he h2=>by
   refine h.todo j oj d ?_ h1 h2
   have hj3:j<ops.length:=(List.getElem?_eq_some_iff.1 h1).1
   have hj2:j<listed.size:=Nat.lt_of_lt_of_le hj3 h.lsize
   cases hb:listed[j] with
   | false=>rw[Array.getElem?_eq_getElem hj2,hb]
   | true=>
    exfalso
    have:=h.closed j oj i (by rw[Array.getElem?_eq_getElem hj2,hb]) h1 he
    rw[hf] at this;cases this⟩
  have:=hob a w cx
  unfold wpOp
  simp only[ho]
  split
  ·rename_i hw
   rw[if_pos hw] at this
   refine .inl (Oper.wp_noQ (Oper.wp_mono (fun a' w' h'=>?_) this))
   obtain⟨v,rfl,hb,hv⟩:=h'
   exact ih _ _ _ (h.put hok hg hb ho' edge fun G hG=>by rw[List.getElem?_eq_getElem hGi] at hG;cases hG;exact hv) (by have:=Ei hf;omega)
  ·rename_i hw
   rw[if_neg hw] at this
   exact ih _ _ _ (h.put hok hg (Below.refl _ _) ho' edge fun G hG=>by rw[List.getElem?_eq_getElem hGi] at hG;cases hG;exact this) (by have:=Ei hf;omega)
def Ab (P:Program) (ops:List Oper) (w0:World) (a0:Act) (Q:Exit->Act->World->Prop):List Oper->List VT->Prop
 | o::os,RF=>∃ F:VT,Grows F∧Ob P ops RF.reverse w0 a0 RF.length o F∧Ab P ops w0 a0 Q os (F::RF)
 | [],RF=>∀ w,Below w0.heap.size w0 w->Bq Q (Ao ops) RF.reverse a0 w
theorem Ab.step {o:Oper} {os:List Oper} {RF:List VT} {F:VT} [hF:Grows F] (h:Ob P ops RF.reverse w0 a0 RF.length o F) (k:Ab P ops w0 a0 Q os (F::RF)):Ab P ops w0 a0 Q (o::os) RF:=⟨F,hF,h,k⟩
theorem Ab.fore:∀ {os:List Oper} {RF:List VT},Ab P ops w0 a0 Q os RF->Pj P ops w0 a0 Q os RF.reverse
 | [],_,h=>h
 | o::os,RF,⟨F,hF,hob,k⟩=>⟨F,hF,by rw[List.length_reverse];exact hob,by have:=k.fore;rwa [List.reverse_cons] at this⟩
theorem Am {id:Nat} (hm:P.follows .mixedOrders=true) (hok:okM a0.tmps.size 0 ops []=true) (h:Ab P ops w0 a0 Q ops []):(Code.region id ops.toArray true).wp P Q a0 w0:=by
 obtain⟨Gs,h1,h2,h3⟩:=Pj.all (Fs:=[]) h.fore [] rfl (by simp) (fun i o F hi=>by simp at hi)
 refine wp_region_any hm ?_
 have hu:Bh (Array.replicate ops.length false)=ops.length:=by simp[Bh,List.countP_replicate]
 have:=Vq (Q:=Q) hok h1 h2 h3 ops.length (Array.replicate ops.length false) a0 { w0 with drawn:=w0.drawn+1 }
  ⟨(Below.refl _ w0).drew,rfl,rfl,by simp,fun _ _=>rfl,fun j oj d G hj=>by simp[Array.getElem?_replicate] at hj,fun j oj i hj=>by simp[Array.getElem?_replicate] at hj,fun j oj d _ _ _=>rfl⟩ hu
 simpa using this
def okT (n:Nat) (ops:List Oper):Bool:=
 (List.range ops.length).all fun i=>match ops[i]? with
  | none=>false
  | some o=>(o.after.toList.all fun e=>decide (e.on<i))&&(match o.guard with | none=>true | some (j,_)=>decide (j<i)) &&
   (if i<n then (List.range (n+1)).any fun k=>decide (i<k)&&(match ops[k]? with | some q=>Bl q i | none=>false) else decide (i=n)||Bl o (i - 1))
def Al (P:Program) (ops:List Oper) (n:Nat) (w0:World) (a0:Act) (Q:Exit->Act->World->Prop):List Oper->List VT->Prop
 | o::os,RF=>∃ F:VT,Grows F∧Ob P (ops.take n) RF.reverse w0 a0 RF.length o F∧Al P ops n w0 a0 Q os (F::RF)
 | [],RF=>∀ w,Below w0.heap.size w0 w->Bq (fun _ a w=>wpList P ops.toArray Q (ops.drop n) a w) (Ao (ops.take n)) RF.reverse a0 w
theorem Al.step {n:Nat} {o:Oper} {os:List Oper} {RF:List VT} {F:VT} [hF:Grows F] (h:Ob P (ops.take n) RF.reverse w0 a0 RF.length o F) (k:Al P ops n w0 a0 Q os (F::RF)):Al P ops n w0 a0 Q (o::os) RF:=⟨F,hF,h,k⟩
theorem Al.fore {n:Nat}:∀ {os:List Oper} {RF:List VT},Al P ops n w0 a0 Q os RF->Pj P (ops.take n) w0 a0 (fun _ a w=>wpList P ops.toArray Q (ops.drop n) a w) os RF.reverse
 | [],_,h=>h
 | o::os,RF,⟨F,hF,hob,k⟩=>⟨F,hF,by rw[List.length_reverse];exact hob,by have:=k.fore;rwa [List.reverse_cons] at this⟩
theorem J9 {n i:Nat} {o:Oper} {tmps:Array Value} (hi:i<n) (hg:∀ j b,o.guard=some (j,b)->j<i):Region.wanted o (yielded (ops.take n).toArray tmps)=Region.wanted o (yielded ops.toArray tmps):=by
 unfold Region.wanted
 cases h:o.guard with
 | none=>rfl
 | some g=>
  obtain⟨j,b⟩:=g
  have hj:=hg j b h
  have:(ops.take n)[j]?=ops[j]?:=by rw[List.getElem?_take,if_pos (by omega)]
  simp[yielded,this]
theorem Hh {n:Nat} (h:okT n ops=true) {i:Nat} {o:Oper} (hi:ops[i]?=some o):(∀ e∈o.after,e.on<i)∧(∀ j b,o.guard=some (j,b)->j<i)∧
  (i<n->∃ k q,i<k∧k<=n∧ops[k]?=some q∧Bl q i=true)∧(n<i->Bl o (i - 1)=true):=by
 have hl:i<ops.length:=(List.getElem?_eq_some_iff.1 hi).1
 have:=List.all_eq_true.1 h i (List.mem_range.2 hl)
 simp only[hi,Bool.and_eq_true] at this
 obtain⟨⟨h1,h2⟩,h3⟩:=this
 refine⟨fun e he=>by simpa using List.all_eq_true.1 h1 e (by simpa using he),fun j b hg=>?_,fun hin=>?_,fun hin=>?_⟩
 ·rw[hg] at h2;simpa using h2
 ·rw[if_pos hin,List.any_eq_true] at h3
  obtain⟨k,hk,hk2⟩:=h3
  rw[Bool.and_eq_true] at hk2
  cases hq:ops[k]? with
  | none=>rw[hq] at hk2;exact absurd hk2.2 (by simp)
  | some q=>rw[hq] at hk2;exact⟨k,q,by simpa using hk2.1,by have:=List.mem_range.1 hk;omega,hq,hk2.2⟩
 ·rw[if_neg (by omega)] at h3
  have:¬i=n:=by omega
  simpa [this] using h3
theorem Ahu {n:Nat} (hok:okT n ops=true):∀ (rest:List Oper) (m:Nat) (listed:Array Bool) (a:Act) (w:World),n<=m->rest=ops.drop m->listed.size=ops.length->(∀ j,j<m->j<ops.length->listed[j]?=some true)->(∀ j,m<=j->j<ops.length->listed[j]?=some false) ->
  wpList P ops.toArray Q rest a w->wpAny P .any ops.toArray Q rest.length listed a w:=by
 intro rest
 induction rest with
 | nil=>
  intro m listed a w hm hr hs ht hf h
  have hml:ops.length<=m:=List.drop_eq_nil_iff.1 hr.symm
  refine⟨?_,h⟩
  rw[List.eq_nil_iff_forall_not_mem]
  intro j hj
  obtain⟨h0,o,ho,_⟩:=mem_ready.1 hj
  have hjl:j<ops.length:=by have:=(Array.getElem?_eq_some_iff.1 ho).1;simpa using this
  have:=ht j (by omega) hjl
  simp[Array.getD_eq_getD_getElem?,this] at h0
 | cons o rest ih=>
  intro m listed a w hm hr hs ht hf h
  have hml:m<ops.length:=by
   rcases Nat.lt_or_ge m ops.length with h1 | h1
   ·exact h1
   ·rw[List.drop_of_length_le h1] at hr;cases hr
  rw[List.drop_eq_getElem_cons hml] at hr
  injection hr with hr1 hr2
  have hmo:ops[m]?=some o:=by rw[List.getElem?_eq_getElem hml,hr1]
  obtain⟨e1,_,_,_⟩:=Hh hok hmo
  have hready:m∈Region.ready .any ops.toArray listed:=mem_ready.2 ⟨by simp[Array.getD_eq_getD_getElem?,hf m (Nat.le_refl _) hml],o,by simpa using hmo,fun e he _=>by
   have:=e1 e he
   simp[Array.getD_eq_getD_getElem?,ht e.on this (by omega)]⟩
  refine⟨fun h0=>(by rw[h0] at hready;cases hready),fun i hi=>?_⟩
  obtain⟨h0,o',ho',hall⟩:=mem_ready.1 hi
  have hil:i<ops.length:=by have:=(Array.getElem?_eq_some_iff.1 ho').1;simpa using this
  have him:m<=i:=by
   rcases Nat.lt_or_ge i m with h1 | h1
   ·have:=ht i h1 hil;simp[Array.getD_eq_getD_getElem?,this] at h0
   ·exact h1
  have hie:i=m:=by
   rcases Nat.eq_or_lt_of_le him with h1 | h1
   ·exact h1.symm
   ·exfalso
    have ho2:ops[i]?=some o':=by simpa using ho'
    obtain⟨_,_,_,e4⟩:=Hh hok ho2
    have he:=e4 (by omega)
    unfold Bl at he
    rw[List.any_eq_true] at he
    obtain⟨e,hm1,he1⟩:=he
    simp only[Bool.and_eq_true,beq_iff_eq] at he1
    have:=hall e (by simpa using hm1) he1.2
    rw[he1.1] at this
    have h5:=hf (i - 1) (by omega) (by omega)
    simp[Array.getD_eq_getD_getElem?,h5] at this
  subst hie
  have hoo:o'=o:=by have:=(by simpa using ho':ops[i]?=some o').symm.trans hmo;simpa using this
  subst hoo
  unfold wpOp
  simp only[ho']
  unfold wpList at h
  have next:∀ a' w',wpList P ops.toArray Q rest a' w'->wpAny P .any ops.toArray Q rest.length (listed.setIfInBounds i true) a' w':=fun a' w' h'=>
   ih (i+1) _ a' w' (by omega) hr2 (by simp[hs]) (fun j hj hjl=>by
    by_cases hji:i=j
    ·subst hji;simp[hs,hjl]
    ·rw[Array.getElem?_setIfInBounds_ne hji];exact ht j (by omega) hjl) (fun j hj hjl=>by
    rw[Array.getElem?_setIfInBounds_ne (by omega)];exact hf j (by omega) hjl) h'
  split
  ·rename_i hw
   rw[if_pos hw] at h
   exact h.imp (Oper.wp_mono next) id
  ·rename_i hw
   rw[if_neg hw] at h
   exact next _ _ h
theorem Lm {n:Nat} {Gs:List VT} (hn:n<ops.length) (hok:okM a0.tmps.size 0 (ops.take n) []=true) (hot:okT n ops=true) (hlen:Gs.length=(ops.take n).length)
  (hobs:∀ (i:Nat) (o:Oper) (F:VT),(ops.take n)[i]?=some o->Gs[i]?=some F->Grows F∧Ob P (ops.take n) Gs w0 a0 i o F)
  (hend:∀ w,Below w0.heap.size w0 w->Bq (fun _ a w=>wpList P ops.toArray Q (ops.drop n) a w) (Ao (ops.take n)) Gs a0 w) :
  ∀ (fuel:Nat) (listed:Array Bool) (a:Act) (w:World),Pn (ops.take n) Gs w0 a0 listed a w->listed.size=ops.length->(∀ j,n<=j->j<ops.length->listed[j]?=some false)->Bh listed=fuel->wpAny P .any ops.toArray Q fuel listed a w:=by
 obtain⟨s1,s2⟩:=Ix hok
 have htl:(ops.take n).length=n:=by rw[List.length_take];omega
 have bodyAt:∀ j o,j<n->(ops[j]?=some o↔(ops.take n)[j]?=some o):=fun j o hj=>by rw[List.getElem?_take,if_pos hj]
 intro fuel
 induction fuel with
 | zero=>
  intro listed a w h hs hf hu
  exfalso
  have h1:=hf n (Nat.le_refl _) hn
  have:0<Bh listed:=by
   unfold Bh
   rw[List.countP_pos_iff]
   refine⟨false,?_,rfl⟩
   rw[<-Array.getElem?_toList] at h1
   exact List.mem_of_getElem? h1
  omega
 | succ fuel ih=>
  intro listed a w h hs hf hu
  by_cases hall:∀ j,j<n->listed[j]?=some true
  ·
   have hQ:wpList P ops.toArray Q (ops.drop n) a w:=by
    refine Ni (Q:=fun _ a w=>wpList P ops.toArray Q (ops.drop n) a w) (ops.take n) Gs a0 (fun j o d F h1 h2 h3=>h.done j o d F (hall j (by have:=(List.getElem?_eq_some_iff.1 h1).1;omega)) h1 h2 h3) hlen.symm (fun o ho=>?_) h.defers.symm h.size.symm (fun t ht=>(h.old t ht).symm) (hend w h.le)
    obtain⟨j,hj⟩:=List.getElem?_of_mem ho
    obtain⟨⟨d,hd,_⟩,_⟩:=s1 j o hj
    rw[hd];simp
   have hcount:Bh listed=(ops.drop n).length:=by
    unfold Bh
    have e:listed.toList=List.replicate n true++List.replicate (ops.length - n) false:=by
     refine List.ext_getElem? fun j=>?_
     rw[List.getElem?_append,List.length_replicate,List.getElem?_replicate,List.getElem?_replicate,Array.getElem?_toList]
     by_cases hj:j<n
     ·rw[if_pos hj,if_pos hj];exact hall j hj
     ·rw[if_neg hj]
      by_cases hj2:j<ops.length
      ·rw[if_pos (by omega)];exact hf j (by omega) hj2
      ·rw[if_neg (by omega)];exact Array.getElem?_eq_none (by omega)
    rw[e];simp[List.countP_append,List.countP_replicate]
   rw[<-hu,hcount]
   exact Ahu hot (ops.drop n) n listed a w (Nat.le_refl _) rfl hs (fun j hj _=>hall j hj) hf hQ
  ·
   have hex:∃ j,j<n∧listed[j]?=some false:=by
    refine Classical.byContradiction fun hne=>hall fun j hj=>?_
    have hjs:j<listed.size:=by omega
    cases hb:listed[j] with
    | true=>rw[Array.getElem?_eq_getElem hjs,hb]
    | false=>exact absurd ⟨j,hj,by rw[Array.getElem?_eq_getElem hjs,hb]⟩ hne
   have hnr:Region.ready .any ops.toArray listed≠[]:=by
    obtain⟨j0,hj0,hjf⟩:=hex
    have key:∀ j,j<n->listed[j]?=some false->Region.ready .any ops.toArray listed≠[]:=by
     intro j
     induction j using Nat.strongRecOn with
     | _ j ihj=>
      intro hj hjf hr
      have hjo:ops[j]?=some ops[j]:=List.getElem?_eq_getElem (by omega)
      have:j∈Region.ready .any ops.toArray listed:=mem_ready.2 ⟨by simp[Array.getD_eq_getD_getElem?,hjf],ops[j],by simp,fun e he _=>by
       have hlt:=(Hh hot hjo).1 e he
       have hes:e.on<listed.size:=by omega
       cases hb:listed[e.on] with
       | true=>simp[Array.getD_eq_getD_getElem?,hes,hb]
       | false=>exact absurd hr (ihj e.on hlt (by omega) (by rw[Array.getElem?_eq_getElem hes,hb]))⟩
      rw[hr] at this;cases this
    exact key j0 hj0 hjf
   refine⟨fun h0=>absurd h0 hnr,fun i hi=>?_⟩
   obtain⟨h0,o,ho,hed⟩:=mem_ready.1 hi
   have ho':ops[i]?=some o:=by simpa using ho
   have hil:i<ops.length:=(List.getElem?_eq_some_iff.1 ho').1
   have edgeF:∀ (o:Oper),ops[i]?=some o->∀ j,Bl o j=true->listed[j]?=some true:=fun q hq j he=>by
    have hqo:q=o:=by rw[hq] at ho';simpa using ho'
    subst hqo
    unfold Bl at he
    rw[List.any_eq_true] at he
    obtain⟨e,hm,he⟩:=he
    simp only[Bool.and_eq_true,beq_iff_eq] at he
    have h1:=hed e (by simpa using hm) he.2
    have h2:=(Hh hot hq).1 e (by simpa using hm)
    rw[he.1] at h1 h2
    have hj2:j<listed.size:=by omega
    rw[Array.getElem?_eq_getElem hj2]
    simpa [Array.getD_eq_getD_getElem?,hj2] using h1
   have hin:i<n:=by
    rcases Nat.lt_or_ge i n with h1 | h1
    ·exact h1
    ·exfalso
     rcases Nat.eq_or_lt_of_le h1 with h2 | h2
     ·
      subst h2
      have chain:∀ d j,n - j=d->j<n->listed[j]?=some true:=by
       intro d
       induction d using Nat.strongRecOn with
       | _ d ihd=>
        intro j hd hj
        have hjo:ops[j]?=some ops[j]:=List.getElem?_eq_getElem (by omega)
        obtain⟨k,q,hk1,hk2,hk3,hk4⟩:=(Hh hot hjo).2.2.1 hj
        rcases Nat.eq_or_lt_of_le hk2 with h3 | h3
        ·subst h3;exact edgeF q hk3 j hk4
        ·exact h.closed k q j (ihd (n - k) (by omega) k rfl h3) ((bodyAt k q h3).1 hk3) hk4
      exact hall fun j hj=>chain (n - j) j rfl hj
     ·have he:=(Hh hot ho').2.2.2 h2
      have:=edgeF o ho' (i - 1) he
      have h5:=hf (i - 1) (by omega) (by omega)
      rw[this] at h5;cases h5
   have hob':(ops.take n)[i]?=some o:=(bodyAt i o hin).1 ho'
   have hjl:i<listed.size:=by omega
   have hfi:listed[i]?=some false:=by
    rw[Array.getElem?_eq_getElem hjl]
    simpa [Array.getD_eq_getD_getElem?,hjl] using h0
   have hGi:i<Gs.length:=by omega
   obtain⟨hgr,hob⟩:=hobs i o Gs[i] hob' (List.getElem?_eq_getElem hGi)
   have hg:∀ (j:Nat) (F:VT),Gs[j]?=some F->Grows F:=fun j F hj=>by
    have hjo:j<(ops.take n).length:=by rw[<-hlen];exact(List.getElem?_eq_some_iff.1 hj).1
    exact(hobs j (ops.take n)[j] F (List.getElem?_eq_getElem hjo) hj).1
   have edge:=edgeF o ho'
   have cx:Cx (ops.take n) Gs w0 a0 i o a w:=⟨h.le,h.defers,h.size,h.old,fun j oj d G he h1 h2 h3=>h.done j oj d G (edge j he) h1 h2 h3,fun j oj d h1 he h2=>by
    refine h.todo j oj d ?_ h1 h2
    have hj3:j<(ops.take n).length:=(List.getElem?_eq_some_iff.1 h1).1
    have hj2:j<listed.size:=by omega
    cases hb:listed[j] with
    | false=>rw[Array.getElem?_eq_getElem hj2,hb]
    | true=>
     exfalso
     have:=h.closed j oj i (by rw[Array.getElem?_eq_getElem hj2,hb]) h1 he
     rw[hfi] at this;cases this⟩
   have hob2:=hob a w cx
   rw[J9 hin (Hh hot ho').2.1] at hob2
   have step:∀ a' w',Pn (ops.take n) Gs w0 a0 (listed.setIfInBounds i true) a' w'->wpAny P .any ops.toArray Q fuel (listed.setIfInBounds i true) a' w':=fun a' w' h'=>
    ih _ a' w' h' (by simp[hs]) (fun j hj hjl2=>by rw[Array.getElem?_setIfInBounds_ne (by omega)];exact hf j hj hjl2) (by have:=Ei hfi;omega)
   unfold wpOp
   simp only[ho]
   split
   ·rename_i hw
    rw[if_pos hw] at hob2
    refine .inl (Oper.wp_noQ (Oper.wp_mono (fun a' w' h'=>?_) hob2))
    obtain⟨v,rfl,hb,hv⟩:=h'
    exact step _ _ (h.put hok hg hb hob' edge fun G hG=>by rw[List.getElem?_eq_getElem hGi] at hG;cases hG;exact hv)
   ·rename_i hw
    rw[if_neg hw] at hob2
    exact step _ _ (h.put hok hg (Below.refl _ _) hob' edge fun G hG=>by rw[List.getElem?_eq_getElem hGi] at hG;cases hG;exact hob2)
theorem Bu {id:Nat} (n:Nat) (hm:P.follows .mixedOrders=true) (hok:okM a0.tmps.size 0 (ops.take n) []=true) (hot:(decide (n<ops.length)&&okT n ops)=true) (h:Al P ops n w0 a0 Q (ops.take n) []):(Code.region id ops.toArray true).wp P Q a0 w0:=by
 rw[Bool.and_eq_true,decide_eq_true_iff] at hot
 obtain⟨Gs,h1,h2,h3⟩:=Pj.all (Fs:=[]) h.fore [] rfl (by simp) (fun i o F hi=>by simp at hi)
 refine wp_region_any hm ?_
 have hu:Bh (Array.replicate ops.length false)=ops.length:=by simp[Bh,List.countP_replicate]
 have:=Lm (Q:=Q) hot.1 hok hot.2 h1 h2 h3 ops.length (Array.replicate ops.length false) a0 { w0 with drawn:=w0.drawn+1 }
  ⟨(Below.refl _ w0).drew,rfl,rfl,by simp[List.length_take];omega,fun _ _=>rfl,fun j oj d G hj=>by simp[Array.getElem?_replicate] at hj,fun j oj i hj=>by simp[Array.getElem?_replicate] at hj,fun j oj d _ _ _=>rfl⟩ (by simp) (fun j _ hj=>by simp[hj]) hu
 simpa using this
end
end Go.Proofs.YthnbhjpahlceeaaGreatDoor
