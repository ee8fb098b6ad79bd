/-
  dot.parts with one closure that keeps all; dot.Union.
-/
import Derived.Test.YthnbhjpahlceeaaGreatDoorTC
import Derived.Lib.AppendZerosOnto
import Derived.Maps.RangeWalk
import Derived.Maps.OwnOps
import Derived.Test.YthnbhjpahlceeaaGreatDoorProg
import Derived.Shelf.SlSortCmp.NoneTotal
import Derived.Shelf.SortM.Plain
import Derived.Shelf.SortM.SortNone
import Derived.Ground.SlsfProg
import Derived.Ground.SlgmProg
set_option maxRecDepth 100000
set_option maxHeartbeats 8000000
set_option linter.unusedSectionVars false
set_option linter.unusedVariables false
set_option linter.unusedSimpArgs false
set_option maxRecDepth 100000
set_option maxHeartbeats 8000000
namespace Go.Proofs.YthnbhjpahlceeaaGreatDoor
open Go.RowKit
def M5 (N:Nat) (v:Value) (b:Nat):Prop:=b≠N∧v.ownBlock≠some b
theorem Frame.cell {N:Nat} {v:Value} {w w':World} (h:Frame N v w w') {b o:Nat} (hb:b<w.heap.size) (hk:M5 N v b):w'.cell? ⟨b,o,none⟩=w.cell? ⟨b,o,none⟩:=World.cell?_of_block (a:=⟨b,o,none⟩) (h.block b hb hk.1 hk.2)
theorem Frame.dots {N:Nat} {v:Value} {w w':World} (h:Frame N v w w') {A:Option Addr} {n c:Nat} {l:List Dot} (hd:Bc w A n c l) (ho:Off (M5 N v) A l):Bc w' A n c l:=by
 refine⟨hd.len,hd.cap,hd.max,hd.nil,fun i d hi=>?_⟩
 obtain⟨b,o,rfl,hb,h1,h2⟩:=hd.cell i d hi
 have hl:l≠[]:=fun e=>by subst e;simp at hi
 have hk:M5 N v b:=ho hl _ rfl
 exact⟨b,o,rfl,Nat.lt_of_lt_of_le hb h.size,(h.cell hb hk).trans h1,(h.cell hb hk).trans h2⟩
theorem Frame.off {N:Nat} {v v':Value} {w:World} {A:Option Addr} {n c:Nat} {l:List Dot} (hd:Bc w A n c l) (ho:Off (M5 N v) A l) (hv:∀ g,v'.ownBlock=some g->v.ownBlock=some g∨w.heap.size<=g):Off (M5 N v') A l:=fun hl a ha=>
 ⟨(ho hl a ha).1,fun e=>by
  rcases hv _ e with h | h
  ·exact(ho hl a ha).2 h
  ·have:=hd.lt hl a ha;omega⟩
theorem Frame.below {N:Nat} {v:Value} {w w':World} (h:Frame N v w w') (hv:∀ k,v.ownBlock=some k->N<k) (hN:N<=w.heap.size):Below N w w':=
 ⟨h.os,h.tape,h.output,h.size,fun k hk=>h.block k (by omega) (by omega) (fun e=>by have:=hv k e;omega)⟩
theorem Off.drop {p:Nat->Prop} {A:Option Addr} {c k:Nat} {l:List Dot} (h:Off p A l):Off p (G4 A c k) (l.drop k):=fun hl=>Aav (h fun e=>hl (by rw[e];simp))
structure Dt (N B:Nat) (w:World) (a0 b0:List Dot) (A:Option Addr) (n c:Nat) (a:List Dot) (A':Option Addr) (m d:Nat) (b acc:List Dot) (v:Value) (wr:World):Prop where
 d1:Bc wr A n c a
 d2:Bc wr A' m d b
 o1:Off (M5 N v) A a
 o2:Off (M5 N v) A' b
 cell:wr.cell? ⟨N,0,none⟩=some v
 free:wr.frozen? ⟨N,0,none⟩=false
 row:Row wr B v acc
 below:Below N w wr
 base:B<=wr.heap.size
 box:N<B
 merge:acc++Cg a b=Cg a0 b0
 len:acc.length+(a.length+b.length)<=a0.length+b0.length
section
variable {N B:Nat} {w wr w':World} {a0 b0 a b acc s t:List Dot} {A A':Option Addr} {n c m d:Nat} {v:Value} {p q:Dot}
theorem Dt.mono (h:Dt N B w a0 b0 A n c a A' m d b acc v wr) (hE:Below wr.heap.size wr w'):Dt N B w a0 b0 A n c a A' m d b acc v w':=
 ⟨h.d1.mono hE,h.d2.mono hE,h.o1,h.o2,Ad hE h.cell,(hE.frozen (p:=⟨N,0,none⟩) (Nat.lt_of_lt_of_le h.box h.base)).trans h.free,Row.mono h.row hE,h.below.trans (hE.mono (by have:=h.box;have:=h.base;omega)),Nat.le_trans h.base hE.size,h.box,h.merge,h.len⟩
structure Alx (N B:Nat) (v:Value) (l:List Dot) (w:World) (v':Value) (w':World):Prop where
 frame:Frame N v w w'
 cell:w'.cell? ⟨N,0,none⟩=some v'
 free:w'.frozen? ⟨N,0,none⟩=false
 row:Row w' B v' l
 own:∀ g,v'.ownBlock=some g->v.ownBlock=some g∨w.heap.size<=g
theorem Dt.low (h:Dt N B w a0 b0 A n c a A' m d b acc v wr):∀ k,v.ownBlock=some k->N<k:=fun k hk=>by have:=Row.own wr h.row k hk;have:=h.box;omega
theorem Dt.first {v':Value} (h:Dt N B w a0 b0 A n c (p::s) A' m d b acc v wr) (hm:Cg (p::s) b=p::Cg s b) (k:Alx N B v (acc++[p]) wr v' w') :
  Dt N B w a0 b0 (G4 A c 1) (n - 1) (c - 1) s A' m d b (acc++[p]) v' w':=
 ⟨(k.frame.dots h.d1 h.o1).drop (k:=1) (by have:=h.d1.len;simp at this;omega),k.frame.dots h.d2 h.o2,(Frame.off h.d1 h.o1 k.own).drop (k:=1),Frame.off h.d2 h.o2 k.own,k.cell,k.free,k.row,
  h.below.trans (k.frame.below h.low (by have:=h.box;have:=h.base;omega)),Nat.le_trans h.base k.frame.size,h.box,by rw[<-h.merge,hm];simp,by have:=h.len;simp at this ⊢;omega⟩
theorem Dt.second {v':Value} (h:Dt N B w a0 b0 A n c a A' m d (q::t) acc v wr) (hm:Cg a (q::t)=q::Cg a t) (k:Alx N B v (acc++[q]) wr v' w') :
  Dt N B w a0 b0 A n c a (G4 A' d 1) (m - 1) (d - 1) t (acc++[q]) v' w':=
 ⟨k.frame.dots h.d1 h.o1,(k.frame.dots h.d2 h.o2).drop (k:=1) (by have:=h.d2.len;simp at this;omega),Frame.off h.d1 h.o1 k.own,(Frame.off h.d2 h.o2 k.own).drop (k:=1),k.cell,k.free,k.row,
  h.below.trans (k.frame.below h.low (by have:=h.box;have:=h.base;omega)),Nat.le_trans h.base k.frame.size,h.box,by rw[<-h.merge,hm];simp,by have:=h.len;simp at this ⊢;omega⟩
theorem Dt.both {v':Value} (h:Dt N B w a0 b0 A n c (p::s) A' m d (q::t) acc v wr) (hm:Cg (p::s) (q::t)=p::Cg s t) (k:Alx N B v (acc++[p]) wr v' w') :
  Dt N B w a0 b0 (G4 A c 1) (n - 1) (c - 1) s (G4 A' d 1) (m - 1) (d - 1) t (acc++[p]) v' w':=
 ⟨(k.frame.dots h.d1 h.o1).drop (k:=1) (by have:=h.d1.len;simp at this;omega),(k.frame.dots h.d2 h.o2).drop (k:=1) (by have:=h.d2.len;simp at this;omega),(Frame.off h.d1 h.o1 k.own).drop (k:=1),(Frame.off h.d2 h.o2 k.own).drop (k:=1),k.cell,k.free,k.row,
  h.below.trans (k.frame.below h.low (by have:=h.box;have:=h.base;omega)),Nat.le_trans h.base k.frame.size,h.box,by rw[<-h.merge,hm];simp,by have:=h.len;simp at this ⊢;omega⟩
theorem Q7 {x y:Int} (h:Dt N B w a0 b0 A n c a A' m d b acc v wr) (hs:a0.length+b0.length<=1000000) :
  Calls Tryz.prog 410 #[.agg #[.int .i64 x,.int .i64 y],.pointer (some ⟨N,0,none⟩)] wr fun e w'=>e = .returned (.tuple #[])∧∃ v',Alx N B v (acc++[(x,y)]) wr v' w':=
 (Ar1 N B x y v acc wr h.box h.cell h.free h.row (by have:=h.len;unfold Small;omega) h.base).mono fun _ _ ⟨e,f,v',h1,h2,h3,h4⟩=>⟨e,v',f,h1,h2,h3,h4⟩
end
def Xt (N B:Nat) (w:World) (a0 b0:List Dot) (x y:Value) (wr:World):Prop:=
 ∃ (A:Option Addr) (n c:Nat) (a:List Dot) (A':Option Addr) (m d:Nat) (b acc:List Dot) (v:Value),x = .slice A n c∧y = .slice A' m d∧Dt N B w a0 b0 A n c a A' m d b acc v wr
def lenOf (v:Value):Nat:=match v with | .slice _ n _=>n | _=>0
theorem Xh {x y:Dot} {s t:List Dot} (h:Bp x y=true):Cg (x::s) (y::t)=x::Cg s (y::t):=by rw[Cg,if_pos h]
theorem Wb {x y:Dot} {s t:List Dot} (h:Bp x y=false) (h2:Bp y x=true):Cg (x::s) (y::t)=y::Cg (x::s) t:=by rw[Cg,if_neg (by rw[h];simp),if_pos h2]
theorem Ab2 {x y:Dot} {s t:List Dot} (h:Bp x y=false) (h2:Bp y x=false):Cg (x::s) (y::t)=x::Cg s t:=by rw[Cg,if_neg (by rw[h];simp),if_neg (by rw[h2];simp)]
theorem Afe (a:List Dot):Cg a []=a:=by cases a <;> simp[Cg]
theorem Bc.head {w:World} {A:Option Addr} {n c:Nat} {p:Dot} {s:List Dot} (h:Bc w A n c (p::s)):∃ b o,A=some ⟨b,o,none⟩∧b<w.heap.size∧w.cell? ⟨b,o,none⟩=some (.int .i64 p.1)∧w.cell? ⟨b,o+1,none⟩=some (.int .i64 p.2)∧1<=n:=by
 obtain⟨b,o,e,hb,h1,h2⟩:=h.cell 0 p rfl
 exact⟨b,o,e,hb,by simpa using h1,by simpa using h2,by have:=h.len;simp at this;omega⟩
theorem Lv {w:World} {b o n c:Nat} (hn:1<=n):(Instr.indexAt 135 (.slice (some ⟨b,o,none⟩) n c) (.int .i64 0)).run Tryz.prog w = .ok (.pointer (some ⟨b,o,none⟩)) w:=by
 have:=Cm (w:=w) (b:=b) (o:=o) (n:=n) (c:=c) (k:=0) (by omega)
 simpa using this
theorem Ma {w:World} {A:Option Addr} {n c:Nat} (h:1<=n) (hc:n<=c):(Instr.sliceAt 135 (.slice A n c) (some (.int .i64 1)) none none).run Tryz.prog w = .ok (.slice (G4 A c 1) (n - 1) (c - 1)) w:=D6 (k:=1) h hc
theorem Amw {a b:Dot}:0<Gv a b↔Bp b a=true:=by
 rw[Dj];unfold Gv Ee
 split <;> split <;> (try split) <;> omega
abbrev Ake (N:Nat):Value:=.func (.func 410) #[] #[.pointer (some ⟨N,0,none⟩)]
theorem Aq2 (N B:Nat) (A A':Option Addr) (n c m d:Nat) (a b:List Dot) (w:World) (ha:Bc w A n c a) (hb:Bc w A' m d b) (hs:Small (n+m)) (hN:N<B) (hB:B<=w.heap.size) (hc:w.cell? ⟨N,0,none⟩=some (.slice none 0 0)) (hf:w.frozen? ⟨N,0,none⟩=false) :
  Calls Tryz.prog 411 #[.slice A n c,.slice A' m d,Ake N,Ake N,Ake N] w
   fun e w'=>e = .returned (.tuple #[])∧Below N w w'∧w'.frozen? ⟨N,0,none⟩=false∧∃ v,w'.cell? ⟨N,0,none⟩=some v∧Row w' B v (Be a b):=by
 have hsn:Small n:=by have:=hs.out;unfold Small;omega
 have hsm:Small m:=by have:=hs.out;unfold Small;omega
 have F1:=Avp (Am0 A n c a w ha hsn)
 have HA:=Avp ha;have HB:=Avp hb;have HC:=Avp hc;have HF:=Avp hf
 clear ha hb hc hf
 go_enter Tryz.func411,Tryz.ntmps411
 go_wp2_with fail
 refine F1.out.mono ?_
 rintro e w1 ⟨v1,rfl,hb1,hr1⟩
 have F2:=Avp (Am0 A' m d b w1 (HB.out.mono hb1) hsm)
 have HR1:=Avp hr1
 clear hr1
 go_wp2_with fail
 refine F2.out.mono ?_
 rintro e w2 ⟨v2,rfl,hb2,hr2⟩
 have hb12:=hb1.le hb2
 obtain⟨A1,c1,rfl,hd1⟩:=Row.dots (Row.mono HR1.out hb2)
 have ho1:Off (M5 N (.slice none 0 0)) A1 (Be a []):=fun _ x hx=>⟨by have:=Row.from_ HR1.out x hx;omega,by simp[Value.ownBlock]⟩
 obtain⟨A2,c2,rfl,hd2⟩:=Row.dots hr2
 have ho2:Off (M5 N (.slice none 0 0)) A2 (Be b []):=fun _ x hx=>⟨by have:=Row.from_ hr2 x hx;have:=hb1.size;omega,by simp[Value.ownBlock]⟩
 have start:Xt N B w (Be a []) (Be b []) (.slice A1 (Be a []).length c1) (.slice A2 (Be b []).length c2) w2:=
  ⟨A1,_,c1,_,A2,_,c2,_,[],.slice none 0 0,rfl,rfl,hd1,hd2,ho1,ho2,Ad hb12 HC.out,(hb12.frozen (p:=⟨N,0,none⟩) (by show N<_;omega)).trans HF.out,Row.nil_ _ _,hb12.mono (by omega),(by have:=hb12.size;omega),hN,(by simp),(by simp)⟩
 have hlen:(Be a []).length+(Be b []).length<=1000000:=by
  have h1:=Cy a [];have h2:=Cy b [];have:=HA.out.len;have:=HB.out.len;have:=hs.out;simp at h1 h2;omega
 have hun:=Z6 a b
 have START:=Avp start;have HLEN:=Avp hlen;have HUN:=Avp hun
 clear start hlen hun hb12 hd1 ho1 hd2 ho2 hr2 F1 F2 HR1 HA HB HC HF hb1 hb2
 generalize Be a []=a0 at *
 generalize Be b []=b0 at *
 go_wp2
 go_loopw [0,1] (fun x y wr=>Xt N B w a0 b0 x y wr) (fun x y _=>lenOf x+lenOf y)
 case atStart=>exact START.out
 case round=>
  clear START
  obtain⟨A1,n1,c1,a1,A2,n2,c2,b1,acc,v,rfl,rfl,hp⟩:=hrel
  cases a1 with
  | nil=>
   have hn1:n1=0:=hp.d1.len
   subst hn1
   cases b1 with
   | nil=>
    have hn2:n2=0:=hp.d2.len
    subst hn2
    have H:=Avp hp;clear hp
    go_wp2
    refine bodyPost_end (results_none rfl _ _ _) rfl ?_
    refine⟨rfl,H.out.below,H.out.free,v,H.out.cell,?_⟩
    have e:acc=Be a b:=by have:=H.out.merge;rw[HUN.out] at this;simpa [Cg] using this
    rw[<-e];exact H.out.row
   | cons q t=>
    obtain⟨x,y⟩:=q
    obtain⟨b',o',rfl,hb',k1,k2,hn2⟩:=hp.d2.head
    have hc2:=hp.d2.cap
    have hz2:((n2:Int)==0)=false:=by rw[beq_eq_false_iff_ne];omega
    have H:=Avp hp;have K1:=Avp k1;have K2:=Avp k2;have Z2:=Avp hz2
    clear hp k1 k2 hz2
    have n1:decide ((n2:Int) > 0)=true:=by rw[decide_eq_true_iff];omega
    go_wp2_with fail
    refine Am mixed (by kernel_rfl) ?_
    refine Ab.step (Ob.move Aa.free Has.oldIs) ?_
    refine Ab.step (Ob.lenV Aa.free (Has.new 0 0) (fun w1=>D8)) ?_
    refine Ab.step (Ob.binV Aa.free (Has.new 1 0) (Has.cst _) (fun w1=>Gc false Z2.out)) ?_
    refine Ab.step (Ob.move Aa.free (Has.new 2 0)) ?_
    refine Ab.step (Ob.move (Aa.on 3 0) Has.oldIs) ?_
    refine Ab.step (Ob.lenV (Aa.on 3 1) (Has.new 4 0) (fun w1=>D8)) ?_
    refine Ab.step (Ob.binV (Aa.on 3 2) (Has.new 5 0) (Has.cst _) (fun w1=>Ev false (by simp))) ?_
    refine Ab.step (Ob.move (Aa.on 3 3) (Has.new 6 0)) ?_
    refine Ab.step (Ob.off 7 0) ?_
    refine Ab.step (Ob.off 7 1) ?_
    refine Ab.step (Ob.off 7 2) ?_
    refine Ab.step (Ob.off 7 3) ?_
    refine Ab.step (Ob.off 7 4) ?_
    refine Ab.step (Ob.off 7 5) ?_
    refine Ab.step (Ob.off 7 6) ?_
    refine Ab.step (Ob.off 7 7) ?_
    refine Ab.step (Ob.pickF (Aa.on 3 12) (Has.new 7 8) (Has.cst _)) ?_
    refine Ab.step (Ob.pickF Aa.free (Has.new 3 13) (Has.new 16 0)) ?_
    refine Ab.step (Ob.assign Aa.free (Has.new 17 0)) ?_
    simp only[Ab,Ao,List.map,Bq,List.reverse_cons,List.reverse_nil,List.nil_append,List.cons_append]
    intro wE hE
    iterate 19 (rintro _ rfl)
    simp only[Act.put,List.setIfInBounds_toArray,List.set_cons_zero,List.set_cons_succ]
    have H2:=Avp (H.out.mono hE);have K3:=Avp (Ad hE K1.out);have K4:=Avp (Ad hE K2.out)
    clear H K1 K2 hE
    go_wp2_with fail
    refine Am mixed (by kernel_rfl) ?_
    refine Ab.step (Ob.move Aa.free Has.oldIs) ?_
    refine Ab.step (Ob.lenV Aa.free (Has.new 0 0) (fun w1=>D8)) ?_
    refine Ab.step (Ob.binV Aa.free (Has.new 1 0) (Has.cst _) (fun w1=>Gc true rfl)) ?_
    refine Ab.step (Ob.move Aa.free (Has.new 2 0)) ?_
    refine Ab.step (Ob.off 3 0) ?_
    refine Ab.step (Ob.off 3 1) ?_
    refine Ab.step (Ob.off 3 2) ?_
    refine Ab.step (Ob.off 3 3) ?_
    refine Ab.step (Ob.off 3 4) ?_
    refine Ab.step (Ob.off 3 5) ?_
    refine Ab.step (Ob.off 3 6) ?_
    refine Ab.step (Ob.off 3 7) ?_
    refine Ab.step (Ob.pickT Aa.free (Has.new 3 8) (Has.cst _)) ?_
    refine Ab.step (Ob.assign Aa.free (Has.new 12 0)) ?_
    simp only[Ab,Ao,List.map,Bq,List.reverse_cons,List.reverse_nil,List.nil_append,List.cons_append]
    intro wE hE
    iterate 14 (rintro _ rfl)
    simp only[Act.put,List.setIfInBounds_toArray,List.set_cons_zero,List.set_cons_succ]
    have H3:=Avp (H2.out.mono hE);have K5:=Ad hE K3.out;have K6:=Ad hE K4.out
    clear H2 K3 K4 hE
    have ix:=fun(w:World)=>Lv (w:=w) (b:=b') (o:=o') (c:=c2) hn2
    have F:=Avp (Q7 (x:=x) (y:=y) H3.out HLEN.out)
    have sl:=fun(w:World)=>Ma (w:=w) (A:=some ⟨b',o',none⟩) hn2 hc2
    go_wp2_with (go_at_call 410;((with_reducible refine F.out.mono ?_);rintro e w3 ⟨rfl,v3,hk3⟩;have H4:=Avp (H3.out.second (by simp[Cg]) hk3);clear hk3 H3 F K5 K6 ix))
    go_roundw
    case rel=>exact⟨_,_,_,_,_,_,_,_,_,_,rfl,rfl,H4.out⟩
    case measure=>simp[lenOf];omega
  | cons p s=>
   obtain⟨x,y⟩:=p
   obtain⟨b1',o1',rfl,hb1',k1,k2,hn1⟩:=hp.d1.head
   have hc1:=hp.d1.cap
   have hg1:decide ((n1:Int) > 0)=true:=by rw[decide_eq_true_iff];omega
   have hz1:((n1:Int)==0)=false:=by rw[beq_eq_false_iff_ne];omega
   have K1:=Avp k1;have K2:=Avp k2;have Z1:=Avp hz1;have G1:=Avp hg1
   have ix:=fun(w:World)=>Lv (w:=w) (b:=b1') (o:=o1') (c:=c1) hn1
   have sl:=fun(w:World)=>Ma (w:=w) (A:=some ⟨b1',o1',none⟩) hn1 hc1
   have IX:=Avp ix;have SL:=Avp sl
   clear k1 k2 hz1 hg1 ix sl
   cases b1 with
   | nil=>
    have hn2:n2=0:=hp.d2.len
    subst hn2
    have H:=Avp hp
    clear hp
    go_wp2_with fail
    refine Am mixed (by kernel_rfl) ?_
    refine Ab.step (Ob.move Aa.free Has.oldIs) ?_
    refine Ab.step (Ob.lenV Aa.free (Has.new 0 0) (fun w1=>D8)) ?_
    refine Ab.step (Ob.binV Aa.free (Has.new 1 0) (Has.cst _) (fun w1=>Gc true rfl)) ?_
    refine Ab.step (Ob.move Aa.free (Has.new 2 0)) ?_
    refine Ab.step (Ob.off 3 0) ?_
    refine Ab.step (Ob.off 3 1) ?_
    refine Ab.step (Ob.off 3 2) ?_
    refine Ab.step (Ob.off 3 3) ?_
    refine Ab.step (Ob.offU 7 0) ?_
    refine Ab.step (Ob.offU 7 1) ?_
    refine Ab.step (Ob.offU 7 2) ?_
    refine Ab.step (Ob.offU 7 3) ?_
    refine Ab.step (Ob.offU 7 4) ?_
    refine Ab.step (Ob.offU 7 5) ?_
    refine Ab.step (Ob.offU 7 6) ?_
    refine Ab.step (Ob.offU 7 7) ?_
    refine Ab.step (Ob.off 3 12) ?_
    refine Ab.step (Ob.pickT Aa.free (Has.new 3 13) (Has.cst _)) ?_
    refine Ab.step (Ob.assign Aa.free (Has.new 17 0)) ?_
    simp only[Ab,Ao,List.map,Bq,List.reverse_cons,List.reverse_nil,List.nil_append,List.cons_append]
    intro wE hE
    iterate 19 (rintro _ rfl)
    simp only[Act.put,List.setIfInBounds_toArray,List.set_cons_zero,List.set_cons_succ]
    have H3:=Avp (H.out.mono hE);have K5:=Ad hE K1.out;have K6:=Ad hE K2.out
    clear H K1 K2 hE
    have F:=Avp (Q7 (x:=x) (y:=y) H3.out HLEN.out)
    have ix:=IX.out;have sl:=SL.out
    go_wp2_with (go_at_call 410;((with_reducible refine F.out.mono ?_);rintro e w3 ⟨rfl,v3,hk3⟩;have H4:=Avp (H3.out.first (by simp[Afe]) hk3);clear hk3 H3 F K5 K6 ix))
    go_roundw
    case rel=>exact⟨_,_,_,_,_,_,_,_,_,_,rfl,rfl,H4.out⟩
    case measure=>simp[lenOf];omega
   | cons q t=>
    obtain⟨x2,y2⟩:=q
    obtain⟨b2',o2',rfl,hb2',l1,l2,hn2⟩:=hp.d2.head
    have hc2:=hp.d2.cap
    have hz2:((n2:Int)==0)=false:=by rw[beq_eq_false_iff_ne];omega
    have L1:=Avp l1;have L2:=Avp l2;have Z2:=Avp hz2
    have ix2:=fun(w:World)=>Lv (w:=w) (b:=b2') (o:=o2') (c:=c2) hn2
    have sl2:=fun(w:World)=>Ma (w:=w) (A:=some ⟨b2',o2',none⟩) hn2 hc2
    have IX2:=Avp ix2;have SL2:=Avp sl2
    have f:=fun w1 (_:Below wr.heap.size wr w1)=>Yy x y x2 y2 w1
    have H:=Avp hp
    clear hp l1 l2 hz2 ix2 sl2
    cases hl:Bp (x,y) (x2,y2) with
    | true=>
     have hcmp:=Ko.2 hl
     generalize Gv (x,y) (x2,y2)=r at *
     have HL:=Avp hl;have F:=Avp f;clear hl f
     go_wp2_with fail
     refine Am mixed (by kernel_rfl) ?_
     refine Ab.step (Ob.move Aa.free Has.oldIs) ?_
     refine Ab.step (Ob.lenV Aa.free (Has.new 0 0) (fun w1=>D8)) ?_
     refine Ab.step (Ob.binV Aa.free (Has.new 1 0) (Has.cst _) (fun w1=>Gc false Z2.out)) ?_
     refine Ab.step (Ob.move Aa.free (Has.new 2 0)) ?_
     refine Ab.step (Ob.move (Aa.on 3 0) Has.oldIs) ?_
     refine Ab.step (Ob.lenV (Aa.on 3 1) (Has.new 4 0) (fun w1=>D8)) ?_
     refine Ab.step (Ob.binV (Aa.on 3 2) (Has.new 5 0) (Has.cst _) (fun w1=>Ev true G1.out)) ?_
     refine Ab.step (Ob.move (Aa.on 3 3) (Has.new 6 0)) ?_
     refine Ab.step (Ob.move (Aa.on 7 0) Has.oldIs) ?_
     refine Ab.step (Ob.indexV (Aa.on 7 1) (Has.new 8 0) (Has.cst _) (fun w1=>IX.out w1)) ?_
     refine Ab.step (Ob.loadV (Aa.on 7 2) (Has.new 9 0) (fun w1 hb1=>Bt hb1 K1.out K2.out)) ?_
     refine Ab.step (Ob.move (Aa.on 7 3) Has.oldIs) ?_
     refine Ab.step (Ob.indexV (Aa.on 7 4) (Has.new 11 0) (Has.cst _) (fun w1=>IX2.out w1)) ?_
     refine Ab.step (Ob.loadV (Aa.on 7 5) (Has.new 12 0) (fun w1 hb1=>Bt hb1 L1.out L2.out)) ?_
     refine Ab.step (Ob.call2V (Aa.on 7 6) Fx (Has.new 10 3) (Has.new 13 0) (F.out)) ?_
     refine Ab.step (Ob.binV (Aa.on 7 7) (Has.new 14 0) (Has.cst _) (fun w1=>Ji true (by rw[decide_eq_true_iff];omega))) ?_
     refine Ab.step (Ob.pickT (Aa.on 3 12) (Has.new 7 8) (Has.new 15 0)) ?_
     refine Ab.step (Ob.pickF Aa.free (Has.new 3 13) (Has.new 16 0)) ?_
     refine Ab.step (Ob.assign Aa.free (Has.new 17 0)) ?_
     simp only[Ab,Ao,List.map,Bq,List.reverse_cons,List.reverse_nil,List.nil_append,List.cons_append]
     intro wE hE
     iterate 19 (rintro _ rfl)
     simp only[Act.put,List.setIfInBounds_toArray,List.set_cons_zero,List.set_cons_succ]
     have H3:=Avp (H.out.mono hE);have K5:=Ad hE K1.out;have K6:=Ad hE K2.out
     clear H K1 K2 L1 L2 F hE
     have F:=Avp (Q7 (x:=x) (y:=y) H3.out HLEN.out)
     have ix:=IX.out;have sl:=SL.out
     go_wp2_with (go_at_call 410;((with_reducible refine F.out.mono ?_);rintro e w3 ⟨rfl,v3,hk3⟩;have H4:=Avp (H3.out.first (Xh HL.out) hk3);clear hk3 H3 F K5 K6 ix))
     go_roundw
     case rel=>exact⟨_,_,_,_,_,_,_,_,_,_,rfl,rfl,H4.out⟩
     case measure=>simp[lenOf];omega
    | false=>
     have hnl:¬Gv (x,y) (x2,y2)<0:=by rw[Ko,hl];simp
     have hgt:=Amw (a:=(x,y)) (b:=(x2,y2))
     cases hl2:Bp (x2,y2) (x,y) with
     | true=>
      have hcmp:=hgt.2 hl2
      clear hgt
      generalize Gv (x,y) (x2,y2)=r at *
      have HL:=Avp hl;have HL2:=Avp hl2;have F:=Avp f;clear hl hl2 f
      go_wp2_with fail
      refine Am mixed (by kernel_rfl) ?_
      refine Ab.step (Ob.move Aa.free Has.oldIs) ?_
      refine Ab.step (Ob.lenV Aa.free (Has.new 0 0) (fun w1=>D8)) ?_
      refine Ab.step (Ob.binV Aa.free (Has.new 1 0) (Has.cst _) (fun w1=>Gc false Z2.out)) ?_
      refine Ab.step (Ob.move Aa.free (Has.new 2 0)) ?_
      refine Ab.step (Ob.move (Aa.on 3 0) Has.oldIs) ?_
      refine Ab.step (Ob.lenV (Aa.on 3 1) (Has.new 4 0) (fun w1=>D8)) ?_
      refine Ab.step (Ob.binV (Aa.on 3 2) (Has.new 5 0) (Has.cst _) (fun w1=>Ev true G1.out)) ?_
      refine Ab.step (Ob.move (Aa.on 3 3) (Has.new 6 0)) ?_
      refine Ab.step (Ob.move (Aa.on 7 0) Has.oldIs) ?_
      refine Ab.step (Ob.indexV (Aa.on 7 1) (Has.new 8 0) (Has.cst _) (fun w1=>IX.out w1)) ?_
      refine Ab.step (Ob.loadV (Aa.on 7 2) (Has.new 9 0) (fun w1 hb1=>Bt hb1 K1.out K2.out)) ?_
      refine Ab.step (Ob.move (Aa.on 7 3) Has.oldIs) ?_
      refine Ab.step (Ob.indexV (Aa.on 7 4) (Has.new 11 0) (Has.cst _) (fun w1=>IX2.out w1)) ?_
      refine Ab.step (Ob.loadV (Aa.on 7 5) (Has.new 12 0) (fun w1 hb1=>Bt hb1 L1.out L2.out)) ?_
      refine Ab.step (Ob.call2V (Aa.on 7 6) Fx (Has.new 10 3) (Has.new 13 0) (F.out)) ?_
      refine Ab.step (Ob.binV (Aa.on 7 7) (Has.new 14 0) (Has.cst _) (fun w1=>Ji false (by rw[decide_eq_false_iff_not];omega))) ?_
      refine Ab.step (Ob.pickT (Aa.on 3 12) (Has.new 7 8) (Has.new 15 0)) ?_
      refine Ab.step (Ob.pickF Aa.free (Has.new 3 13) (Has.new 16 0)) ?_
      refine Ab.step (Ob.assign Aa.free (Has.new 17 0)) ?_
      simp only[Ab,Ao,List.map,Bq,List.reverse_cons,List.reverse_nil,List.nil_append,List.cons_append]
      intro wE hE
      iterate 19 (rintro _ rfl)
      simp only[Act.put,List.setIfInBounds_toArray,List.set_cons_zero,List.set_cons_succ]
      have H2:=Avp (H.out.mono hE);have K3:=Avp (Ad hE K1.out);have K4:=Avp (Ad hE K2.out);have L3:=Avp (Ad hE L1.out);have L4:=Avp (Ad hE L2.out)
      have F1:=Avp (fun w1 (h:Below wE.heap.size wE w1)=>F.out w1 (hE.le h))
      clear H K1 K2 L1 L2 F hE
      go_wp2_with fail
      refine Am mixed (by kernel_rfl) ?_
      refine Ab.step (Ob.move Aa.free Has.oldIs) ?_
      refine Ab.step (Ob.lenV Aa.free (Has.new 0 0) (fun w1=>D8)) ?_
      refine Ab.step (Ob.binV Aa.free (Has.new 1 0) (Has.cst _) (fun w1=>Gc false Z1.out)) ?_
      refine Ab.step (Ob.move Aa.free (Has.new 2 0)) ?_
      refine Ab.step (Ob.move (Aa.on 3 0) Has.oldIs) ?_
      refine Ab.step (Ob.indexV (Aa.on 3 1) (Has.new 4 0) (Has.cst _) (fun w1=>IX.out w1)) ?_
      refine Ab.step (Ob.loadV (Aa.on 3 2) (Has.new 5 0) (fun w1 hb1=>Bt hb1 K3.out K4.out)) ?_
      refine Ab.step (Ob.move (Aa.on 3 3) Has.oldIs) ?_
      refine Ab.step (Ob.indexV (Aa.on 3 4) (Has.new 7 0) (Has.cst _) (fun w1=>IX2.out w1)) ?_
      refine Ab.step (Ob.loadV (Aa.on 3 5) (Has.new 8 0) (fun w1 hb1=>Bt hb1 L3.out L4.out)) ?_
      refine Ab.step (Ob.call2V (Aa.on 3 6) Fx (Has.new 6 3) (Has.new 9 0) (F1.out)) ?_
      refine Ab.step (Ob.binV (Aa.on 3 7) (Has.new 10 0) (Has.cst _) (fun w1=>Ev true (by rw[decide_eq_true_iff];omega))) ?_
      refine Ab.step (Ob.pickF Aa.free (Has.new 3 8) (Has.new 11 0)) ?_
      refine Ab.step (Ob.assign Aa.free (Has.new 12 0)) ?_
      simp only[Ab,Ao,List.map,Bq,List.reverse_cons,List.reverse_nil,List.nil_append,List.cons_append]
      intro wE hE
      iterate 14 (rintro _ rfl)
      simp only[Act.put,List.setIfInBounds_toArray,List.set_cons_zero,List.set_cons_succ]
      have H3:=Avp (H2.out.mono hE);have K5:=Ad hE L3.out;have K6:=Ad hE L4.out
      clear H2 K3 K4 L3 L4 F1 hE
      have F:=Avp (Q7 (x:=x2) (y:=y2) H3.out HLEN.out)
      have ix:=IX2.out;have sl:=SL2.out
      go_wp2_with (go_at_call 410;((with_reducible refine F.out.mono ?_);rintro e w3 ⟨rfl,v3,hk3⟩;have H4:=Avp (H3.out.second (Wb HL.out HL2.out) hk3);clear hk3 H3 F K5 K6 ix))
      go_roundw
      case rel=>exact⟨_,_,_,_,_,_,_,_,_,_,rfl,rfl,H4.out⟩
      case measure=>simp[lenOf];omega
     | false=>
      have hcmp:¬0<Gv (x,y) (x2,y2):=by rw[hgt,hl2];simp
      clear hgt
      generalize Gv (x,y) (x2,y2)=r at *
      have HL:=Avp hl;have HL2:=Avp hl2;have F:=Avp f;clear hl hl2 f
      go_wp2_with fail
      refine Am mixed (by kernel_rfl) ?_
      refine Ab.step (Ob.move Aa.free Has.oldIs) ?_
      refine Ab.step (Ob.lenV Aa.free (Has.new 0 0) (fun w1=>D8)) ?_
      refine Ab.step (Ob.binV Aa.free (Has.new 1 0) (Has.cst _) (fun w1=>Gc false Z2.out)) ?_
      refine Ab.step (Ob.move Aa.free (Has.new 2 0)) ?_
      refine Ab.step (Ob.move (Aa.on 3 0) Has.oldIs) ?_
      refine Ab.step (Ob.lenV (Aa.on 3 1) (Has.new 4 0) (fun w1=>D8)) ?_
      refine Ab.step (Ob.binV (Aa.on 3 2) (Has.new 5 0) (Has.cst _) (fun w1=>Ev true G1.out)) ?_
      refine Ab.step (Ob.move (Aa.on 3 3) (Has.new 6 0)) ?_
      refine Ab.step (Ob.move (Aa.on 7 0) Has.oldIs) ?_
      refine Ab.step (Ob.indexV (Aa.on 7 1) (Has.new 8 0) (Has.cst _) (fun w1=>IX.out w1)) ?_
      refine Ab.step (Ob.loadV (Aa.on 7 2) (Has.new 9 0) (fun w1 hb1=>Bt hb1 K1.out K2.out)) ?_
      refine Ab.step (Ob.move (Aa.on 7 3) Has.oldIs) ?_
      refine Ab.step (Ob.indexV (Aa.on 7 4) (Has.new 11 0) (Has.cst _) (fun w1=>IX2.out w1)) ?_
      refine Ab.step (Ob.loadV (Aa.on 7 5) (Has.new 12 0) (fun w1 hb1=>Bt hb1 L1.out L2.out)) ?_
      refine Ab.step (Ob.call2V (Aa.on 7 6) Fx (Has.new 10 3) (Has.new 13 0) (F.out)) ?_
      refine Ab.step (Ob.binV (Aa.on 7 7) (Has.new 14 0) (Has.cst _) (fun w1=>Ji false (by rw[decide_eq_false_iff_not];omega))) ?_
      refine Ab.step (Ob.pickT (Aa.on 3 12) (Has.new 7 8) (Has.new 15 0)) ?_
      refine Ab.step (Ob.pickF Aa.free (Has.new 3 13) (Has.new 16 0)) ?_
      refine Ab.step (Ob.assign Aa.free (Has.new 17 0)) ?_
      simp only[Ab,Ao,List.map,Bq,List.reverse_cons,List.reverse_nil,List.nil_append,List.cons_append]
      intro wE hE
      iterate 19 (rintro _ rfl)
      simp only[Act.put,List.setIfInBounds_toArray,List.set_cons_zero,List.set_cons_succ]
      have H2:=Avp (H.out.mono hE);have K3:=Avp (Ad hE K1.out);have K4:=Avp (Ad hE K2.out);have L3:=Avp (Ad hE L1.out);have L4:=Avp (Ad hE L2.out)
      have F1:=Avp (fun w1 (h:Below wE.heap.size wE w1)=>F.out w1 (hE.le h))
      clear H K1 K2 L1 L2 F hE
      go_wp2_with fail
      refine Am mixed (by kernel_rfl) ?_
      refine Ab.step (Ob.move Aa.free Has.oldIs) ?_
      refine Ab.step (Ob.lenV Aa.free (Has.new 0 0) (fun w1=>D8)) ?_
      refine Ab.step (Ob.binV Aa.free (Has.new 1 0) (Has.cst _) (fun w1=>Gc false Z1.out)) ?_
      refine Ab.step (Ob.move Aa.free (Has.new 2 0)) ?_
      refine Ab.step (Ob.move (Aa.on 3 0) Has.oldIs) ?_
      refine Ab.step (Ob.indexV (Aa.on 3 1) (Has.new 4 0) (Has.cst _) (fun w1=>IX.out w1)) ?_
      refine Ab.step (Ob.loadV (Aa.on 3 2) (Has.new 5 0) (fun w1 hb1=>Bt hb1 K3.out K4.out)) ?_
      refine Ab.step (Ob.move (Aa.on 3 3) Has.oldIs) ?_
      refine Ab.step (Ob.indexV (Aa.on 3 4) (Has.new 7 0) (Has.cst _) (fun w1=>IX2.out w1)) ?_
      refine Ab.step (Ob.loadV (Aa.on 3 5) (Has.new 8 0) (fun w1 hb1=>Bt hb1 L3.out L4.out)) ?_
      refine Ab.step (Ob.call2V (Aa.on 3 6) Fx (Has.new 6 3) (Has.new 9 0) (F1.out)) ?_
      refine Ab.step (Ob.binV (Aa.on 3 7) (Has.new 10 0) (Has.cst _) (fun w1=>Ev false (by rw[decide_eq_false_iff_not];omega))) ?_
      refine Ab.step (Ob.pickF Aa.free (Has.new 3 8) (Has.new 11 0)) ?_
      refine Ab.step (Ob.assign Aa.free (Has.new 12 0)) ?_
      simp only[Ab,Ao,List.map,Bq,List.reverse_cons,List.reverse_nil,List.nil_append,List.cons_append]
      intro wE hE
      iterate 14 (rintro _ rfl)
      simp only[Act.put,List.setIfInBounds_toArray,List.set_cons_zero,List.set_cons_succ]
      have H3:=Avp (H2.out.mono hE);have K5:=Ad hE K3.out;have K6:=Ad hE K4.out
      clear H2 K3 K4 L3 L4 F1 hE
      have F:=Avp (Q7 (x:=x) (y:=y) H3.out HLEN.out)
      have ix:=IX.out
      go_wp2_with (go_at_call 410;((with_reducible refine F.out.mono ?_);rintro e w3 ⟨rfl,v3,hk3⟩;have H4:=Avp (H3.out.both (Ab2 HL.out HL2.out) hk3);clear hk3 H3 F K5 K6 ix))
      refine Am mixed (by kernel_rfl) ?_
      refine Ab.step (Ob.move Aa.free (Has.late 4)) ?_
      refine Ab.step (Ob.sliceFrom_dots Aa.free (Has.new 0 0) (Has.cst _) hn1 hc1 (k:=1)) ?_
      refine Ab.step (Ob.move Aa.free (Has.late 5)) ?_
      refine Ab.step (Ob.sliceFrom_dots Aa.free (Has.new 2 0) (Has.cst _) hn2 hc2 (k:=1)) ?_
      refine Ab.step (Ob.assign Aa.free (Has.new 1 2)) ?_
      refine Ab.step (Ob.assign Aa.free (Has.new 3 1)) ?_
      simp only[Ab,Ao,List.map,Bq,List.reverse_cons,List.reverse_nil,List.nil_append,List.cons_append]
      intro wE hE
      iterate 6 (rintro _ rfl)
      simp only[Act.put,List.setIfInBounds_toArray,List.set_cons_zero,List.set_cons_succ]
      go_wp2
      go_roundw
      case rel=>exact⟨_,_,_,_,_,_,_,_,_,_,rfl,rfl,H4.out.mono hE⟩
      case measure=>simp[lenOf];omega
theorem Aif (A A':Option Addr) (n c m d:Nat) (a b:List Dot) (w:World) (ha:Bc w A n c a) (hb:Bc w A' m d b) (hs:Small (n+m)) :
  Calls Tryz.prog 348 #[.slice A n c,.slice A' m d] w (Ret w (Dd w.heap.size (Be a b))):=by
 have hb0:Below w.heap.size w (w.alloc (.cells #[.slice none 0 0] 135)):=(Below.refl _ _).alloc (Nat.le_refl _) _
 have F:=Avp (Aq2 w.heap.size (w.heap.size+1) A A' n c m d a b (w.alloc (.cells #[.slice none 0 0] 135)) (ha.mono hb0) (hb.mono hb0) hs (by omega) (by simp) (by simp[go_sem]) (by simp[go_sem]))
 have HB0:=Avp hb0
 clear ha hb hb0
 go_enter Tryz.func348,Tryz.ntmps348
 go_wp2_with (go_at_call 411;((with_reducible refine F.out.mono ?_);rintro e w1 ⟨rfl,hb1,hf1,v,hc1,hr1⟩;obtain⟨A1,c1,rfl,hd1⟩:=Row.dots hr1;have HB1:=Avp hb1;have HR:=Avp hr1;clear hb1 hr1 hd1))
 have hcs:=Ca (v:=.slice A1 (Be a b).length c1) hc1
 refine bodyPost_ret (v:=.slice A1 (Be a b).length c1) (by simp[results,Tryz.results348,go_sem,hcs]) rfl ?_
 refine⟨_,rfl,(HB0.out.trans HB1.out).setCell (p:=⟨w.heap.size,0,none⟩) (by simp) _,?_⟩
 exact Row.low (Row.set_ HR.out (p:=⟨w.heap.size,0,none⟩) (fun k hk=>by have:=Row.own w1 HR.out k hk;show k≠w.heap.size;omega) _) (by omega)
theorem Vj:Enters Tryz.prog 348:=enters_of Tryz.func348 (by kernel_rfl) rfl
theorem Sy {ops:Array Oper} {rest:List Oper} {o:Oper} {a:Act} {Q:Exit->Act->World->Prop} {s x:Operand} {t u:TypeId} {w w':World} {v y v':Value}
  (hgd:o.guard=none) (ho:o.op = .call { callee:=.builtin .append,args:=#[s,x],argTypes:=#[t,u] }) (hsv:a.eval s=v) (hxv:a.eval x=y)
  (hr:∀ ty,(Builtin.append_ #[t,u] ty #[v,y]).run Tryz.prog w = .ok v' w') (K:wpList Tryz.prog ops Q rest (a.put o.dst v') w'):wpList Tryz.prog ops Q (o::rest) a w:=by
 refine wpList_plain hgd fun K' hK=>?_
 unfold Oper.wp
 simp[execOp,ho,resolve,invoke,builtin,hsv,hxv,hr,Result.andThen]
 exact hK _ _ K
theorem At7 (n:Nat) (w:World) (hs:Small n) :
  Calls Tryz.prog 438 #[.slice none 0 0,.int .i64 (n:Int)] w (Ret w (Dd w.heap.size [])):=by
 have hn:=hs.out
 have h1:¬((n:Int)<0):=by omega
 by_cases h0:n=0
 ·subst h0
  go_enter Tryz.func438,Tryz.ntmps438
  go_wp2
  go_ret
  exact⟨_,rfl,Below.refl _ _,Row.nil_ _ _⟩
 ·have h4:decide ((n:Int) > 0)=true:=by rw[decide_eq_true_iff];omega
  obtain⟨i,hi,hz,hsz,hby⟩:=Mh
  have hrz:∀ ty,(Builtin.append_ #[136,3] ty #[.slice none 0 0,.int .i64 (n:Int)]).run Tryz.prog w =
    .ok (.slice (some ⟨w.heap.size,0,none⟩) n (grownCap w n 0 224)) (w.drew.alloc (.cells (#[]++Builtin.zeroCells (Value.agg #[.int .i64 0,.int .i64 0]).cells n++Builtin.zeroCells (Value.agg #[.int .i64 0,.int .i64 0]).cells (grownCap w n 0 224 - n)) 224)):=fun ty=>by
   have h:=Lib.run_append_grow_zeros w 136 3 ty 224 i (.agg #[.int .i64 0,.int .i64 0]) .i64 .i64 Tryz.underlying136 Tryz.underlying3 hi hz none 0 0 [] (run_firstCells_none w.drew i.size 0 0 0) n (by omega) (by omega) (by omega) (by omega) (by rw[hby];omega) (by rw[hby];exact growslice_fits (by omega) (by omega))
   rw[Nat.zero_add] at h
   exact h
  have hge:n<=grownCap w n 0 224:=grownCap_ge w _ _ _
  have hmx:grownCap w n 0 224<=maxLen:=grownCap_le_maxLen w n 0 224 (by unfold maxLen;omega)
  have hsize:((#[]:Array Value)++Builtin.zeroCells (Value.agg #[.int .i64 0,.int .i64 0]).cells n++Builtin.zeroCells (Value.agg #[.int .i64 0,.int .i64 0]).cells (grownCap w n 0 224 - n)).size=grownCap w n 0 224*2:=by
   simp[Builtin.zeroCells,Value.cells];omega
  generalize grownCap w n 0 224=G at *
  generalize (#[]:Array Value)++Builtin.zeroCells (Value.agg #[.int .i64 0,.int .i64 0]).cells n++Builtin.zeroCells (Value.agg #[.int .i64 0,.int .i64 0]).cells (G - n)=Z at *
  have HS:=Avp hsize;have HM:=Avp hmx;have HG:=Avp hge
  have hG:G<=9223372036854775807:=by unfold maxLen at hmx;omega
  have HRZ:=Avp hrz
  clear hsize hmx hi hz hsz hby hrz
  go_enter Tryz.func438,Tryz.ntmps438
  go_wp2_with (at_builtin;refine Sy (v:=.slice none 0 0) (y:=.int .i64 (n:Int)) rfl rfl rfl rfl HRZ.out ?_;simp only[Act.put,List.setIfInBounds_toArray,List.set_cons_zero,List.set_cons_succ])
  go_ret
  refine⟨_,rfl,(Below.refl _ w).drew.trans ((Below.refl _ _).alloc (by simp) _),?_⟩
  exact⟨rfl,.inr ⟨w.heap.size,G,Z,rfl,Nat.le_refl _,heap_alloc_new _ _,Nat.zero_le _,HM.out,HS.out,by simp[Bv]⟩⟩
def Afd (B:Nat) (w:World) (a b:List Dot) (v i:Value) (wr:World):Prop:=
 ∃ (k:Nat) (acc:List Dot),i = .int .i64 k∧k<=2∧Row wr B v acc∧Below B w wr∧B<=wr.heap.size∧(k=0∧acc=[]∨k=1∧acc=a∨k=2∧acc=a++b)
theorem Am9 (A A':Option Addr) (n c m d g:Nat) (a b:List Dot) (w:World) (ha:Bc w A n c a) (hb:Bc w A' m d b) (hs:Small (n+m)) (h0:w.cell? ⟨g,0,none⟩=some (.slice A n c)) (h1:w.cell? ⟨g,1,none⟩=some (.slice A' m d)) :
  Calls Tryz.prog 408 #[.slice (some ⟨g,0,none⟩) 2 2] w (Ret w (Dd w.heap.size (a++b))):=by
 have hsn:=hs.out
 have HA:=Avp ha;have HD:=Avp hb;have H0:=Avp h0;have H1:=Avp h1
 have e0:((n:Int)+(m:Int))=((n+m:Nat):Int):=by simp
 have F:=Avp (fun w=>by have h:=At7 (n+m) w hs;rw[<-e0] at h;exact h:∀ w,Calls Tryz.prog 438 #[.slice none 0 0,.int .i64 ((n:Int)+(m:Int))] w (Ret w (Dd w.heap.size [])))
 clear ha hb e0
 go_enter Tryz.func408,Tryz.ntmps408
 go_wp2
 refine wp_loop_rounds 3 ?_
 rw[rounds_succ];go_wp2
 rw[rounds_succ];go_wp2
 rw[rounds_succ];go_wp2_with fail
 refine(F.out _).mono ?_
 rintro e w1 ⟨v1,rfl,hb1,hr1⟩
 have HB1:=Avp hb1;have HR1:=Avp hr1
 have hsz:=hb1.size
 clear hb1 hr1 F
 go_wp2
 go_loopw [6,27] (fun v i wr=>Afd w.heap.size w a b v i wr) (fun _ i _=>2 - (intOf i).toNat)
 case atStart=>exact⟨0,[],rfl,by omega,HR1.out,HB1.out,hsz,.inl ⟨rfl,rfl⟩⟩
 case round=>
  clear HR1
  obtain⟨k,acc,rfl,hk,hr,hb,hB,hcase⟩:=hrel
  have HR:=Avp hr;have HB:=Avp hb
  clear hr hb
  rcases hcase with⟨rfl,rfl⟩ | ⟨rfl,rfl⟩ | ⟨rfl,rfl⟩
  ·have k0:=Ad HB.out H0.out
   have hd:=Avp (HA.out.mono HB.out)
   go_wp2_with (at_builtin;refine D4 (B:=w.heap.size) (l:=[]) rfl rfl Tryz.underlying136 rfl rfl HR.out hd.out (by have:=hd.out.len;simp;omega) hB ?_;intro v' w' hr' hg';have HG:=Avp (HB.out.grown hg' hB (fun q hq=>Row.own _ HR.out q hq));have HR':=Avp hr';have hB':=Nat.le_trans hB hg'.size;clear hr' hg';simp only[Act.put,List.setIfInBounds_toArray,List.set_cons_zero,List.set_cons_succ])
   go_roundw
   case rel=>exact⟨1,a,rfl,by omega,HR'.out,HG.out,hB',.inr (.inl ⟨rfl,rfl⟩)⟩
   case measure=>simp[intOf]
  ·have k0:=Ad HB.out H1.out
   have hd:=Avp (HD.out.mono HB.out)
   go_wp2_with (at_builtin;refine D4 (B:=w.heap.size) (l:=acc) rfl rfl Tryz.underlying136 rfl rfl HR.out hd.out (by have:=hd.out.len;have:=HA.out.len;omega) hB ?_;intro v' w' hr' hg';have HG:=Avp (HB.out.grown hg' hB (fun q hq=>Row.own _ HR.out q hq));have HR':=Avp hr';have hB':=Nat.le_trans hB hg'.size;clear hr' hg';simp only[Act.put,List.setIfInBounds_toArray,List.set_cons_zero,List.set_cons_succ])
   go_roundw
   case rel=>exact⟨2,acc++b,rfl,by omega,HR'.out,HG.out,hB',.inr (.inr ⟨rfl,rfl⟩)⟩
   case measure=>simp[intOf]
  ·go_wp2
   go_ret
   exact⟨_,rfl,HB.out,HR.out⟩
end Go.Proofs.YthnbhjpahlceeaaGreatDoor
namespace Go.Proofs.YthnbhjpahlceeaaGreatDoor
open Go.RowKit Go.Maps
abbrev DU:=DataW Unit
abbrev Rh (c:Int):DU:=.lit (.int .i64 c)
theorem Qy {a b:Int} (h:Rh a=Rh b):a=b:=by cases h;rfl
structure Nd (D:DU) (l:List Dot):Prop where
 isMap:Maps.IsMap D
 keys:∀ r,Maps.has D (.int .i64 r)=l.any (fun d=>d.1==r)
 vals:∀ r,D.atKey (.int .i64 r) (Rh 0)=Rh (Hu l r 0)
theorem Abd (l:List Dot) (d:Dot) (r m:Int):Hu (l++[d]) r m=if r=d.1 then max (Hu l r m) d.2 else Hu l r m:=by unfold Hu;rw[List.foldl_append];rfl
theorem Nd.nil_:Nd (.map []) []:=⟨Maps.isMap_empty,fun _=>rfl,fun _=>rfl⟩
theorem U6 (x:Int):WideAt.IsKeyLit (.int .i64 x):=trivial
theorem Nd.put {D:DU} {l:List Dot} (h:Nd D l) (x y c:Int) (hc:D.atKey (.int .i64 x) (Rh 0)=Rh c):Nd (D.put (.int .i64 x) (Rh (max c y))) (l++[(x,y)]):=by
 have ec:c=Hu l x 0:=by exact(Qy ((h.vals x).symm.trans hc)).symm
 refine⟨h.isMap.put _ _,fun r=>?_,fun r=>?_⟩
 ·rw[List.any_append]
  by_cases e:r=x
  ·subst e
   rw[Maps.has_put_same h.isMap (U6 r)];simp
  ·rw[Maps.has_put_other (fun h=>e (by cases h;rfl)),h.keys r]
   have:((x==r):Bool)=false:=by rw[beq_eq_false_iff_ne];exact fun h=>e h.symm
   simp[this]
 ·rw[Abd]
  by_cases e:r=x
  ·subst e
   rw[Maps.atKey_put_same h.isMap (U6 r),if_pos rfl,ec]
  ·rw[Maps.atKey_put_other (fun h=>e (by cases h;rfl)),h.vals r,if_neg e]
structure Ka (D:DU) (left:Lit->Bool) (acc:List Dot):Prop where
 keys:∀ r,Maps.has D (.int .i64 r)=(left (.int .i64 r)||acc.any (fun d=>d.1==r))
 vals:∀ d∈acc,∀ z,D.atKey (.int .i64 d.1) z=Rh d.2
 apart:acc.Pairwise (fun a b=>a.1≠b.1)
 gone:∀ d∈acc,left (.int .i64 d.1)=false
theorem Ka.start (D:DU):Ka D (Maps.has D) []:=⟨fun r=>by simp,(fun d hd=>nomatch hd),List.Pairwise.nil,(fun d hd=>nomatch hd)⟩
theorem Xr (r x:Int):(Lit.int .i64 r).sameKey (.int .i64 x)=(r==x):=by
 by_cases e:r=x
 ·subst e;rw[WideAt.sameKey_self (U6 r)];simp
 ·rw[Maps.sameKey_ne (fun h=>e (by cases h;rfl)),eq_comm,beq_eq_false_iff_ne];exact e
theorem Ka.next {D:DU} {left:Lit->Bool} {acc:List Dot} (h:Ka D left acc) (x c:Int) (hx:left (.int .i64 x)=true) (hat:∀ zd,D.atKey (.int .i64 x) zd=Rh c):Ka D (fun z=>left z && !z.sameKey (.int .i64 x)) (acc++[(x,c)]):=by
 have hne:∀ d∈acc,d.1≠x:=fun d hd e=>by have:=h.gone d hd;rw[e,hx] at this;cases this
 refine⟨fun r=>?_,fun d hd=>?_,?_,fun d hd=>?_⟩
 ·rw[h.keys r,List.any_append]
  show _=((left (.int .i64 r) && !(Lit.int .i64 r).sameKey (.int .i64 x))||_)
  rw[Xr]
  by_cases e:r=x
  ·subst e;simp[hx]
  ·have h1:((r==x):Bool)=false:=by rw[beq_eq_false_iff_ne];exact e
   have h2:((x==r):Bool)=false:=by rw[beq_eq_false_iff_ne];exact fun h=>e h.symm
   simp[h1,h2]
 ·rcases List.mem_append.1 hd with hd | hd
  ·exact h.vals d hd
  ·rw[List.mem_singleton.1 hd];exact hat
 ·rw[List.pairwise_append]
  exact⟨h.apart,by simp,fun a ha b hb=>by rw[List.mem_singleton.1 hb];exact hne a ha⟩
 ·show(left (.int .i64 d.1)&&_)=false
  rcases List.mem_append.1 hd with hd | hd
  ·rw[h.gone d hd];rfl
  ·rw[List.mem_singleton.1 hd,Xr];simp
theorem Al4 {D:DU} {left:Lit->Bool} {l acc l':List Dot} (hm:Nd D l) (h:Ka D left acc) (hl:∀ kl,left kl=false) (hv:Ax l=true) (hs:Md (ltOf U4) acc l'):l'=Mu l:=by
 obtain⟨m1,m2,m3⟩:=Tp hv
 have hap:l'.Pairwise (fun a b=>a.1≠b.1):=(hs.1.pairwise_iff (fun {a b} (h:a.1≠b.1)=>h.symm)).2 h.apart
 have hinc:Inc l':=by
  have h2:=hap.and hs.2
  refine h2.imp fun {a b} ⟨h1,h3⟩=>?_
  rw[Vs] at h3
  have:=of_decide_eq_false h3
  omega
 have hmem:∀ d∈l',(∃ e∈l,e.1=d.1)∧d.2=Hu l d.1 0:=by
  intro d hd
  have hd':=hs.1.mem_iff.1 hd
  have h1:=h.vals d hd' (Rh 0)
  rw[hm.vals] at h1
  have h2:=h.keys d.1
  rw[hm.keys,hl,Bool.false_or,Bool.eq_iff_iff,List.any_eq_true,List.any_eq_true] at h2
  obtain⟨e,he,hee⟩:=h2.2 ⟨d,hd',by simp⟩
  exact⟨⟨e,he,by simpa using hee⟩,(Qy h1).symm⟩
 have hle:∀ (l:List Dot) (r m:Int),m<=Hu l r m∧∀ e∈l,e.1=r->e.2<=Hu l r m:=by
  intro l
  induction l with
  | nil=>exact fun r m=>⟨Int.le_refl _,fun e he=>nomatch he⟩
  | cons a t ih=>
   intro r m
   rw[Lz]
   obtain⟨i1,i2⟩:=ih r (if r=a.1 then max m a.2 else m)
   refine⟨by by_cases e:r=a.1;(rw[if_pos e] at i1 ⊢;omega);(rw[if_neg e] at i1 ⊢;omega),fun e he hr=>?_⟩
   rcases List.mem_cons.1 he with rfl | he
   ·rw[if_pos hr.symm] at i1 ⊢;omega
   ·exact i2 e he hr
 have hval:Ax l'=true:=Hb fun d hd=>by
  obtain⟨⟨e,he,hee⟩,h2⟩:=hmem d hd
  have h3:=(hle l d.1 0).2 e he hee
  have h4:=Hp.1 (Cj hv he)
  have h5:=Nz (l:=Mu l) (r:=d.1) (by rw[m3];omega)
  rw[m3,<-h2] at h5
  exact Cj m2 h5
 refine Adz hinc m1 hval m2 fun r=>?_
 rw[m3]
 by_cases hr:∃ d∈l',d.1=r
 ·obtain⟨d,hd,rfl⟩:=hr
  rw[Qd hinc hd,(hmem d hd).2]
 ·have hno:∀ a∈l',a.1≠r:=fun a ha e=>hr ⟨a,ha,e⟩
  rw[Tu hno]
  have h2:=h.keys r
  rw[hl,Bool.false_or] at h2
  have h3:acc.any (fun d=>d.1==r)=false:=by
   rw[List.any_eq_false]
   intro a ha e
   exact hno a (hs.1.mem_iff.2 ha) (by simpa using e)
  rw[h3] at h2
  have h4:=Maps.atKey_of_not_has h2 (Rh 0)
  rw[hm.vals] at h4
  exact(Qy h4).symm
theorem Agq {H:Type} {w:World} {P:Program} {k:TypeId} {R:Value->Option (DataW H×List MemPlace)} {b n:Nat} {D:DataW H} (h:w.ownsMap P k R b n D):Maps.size D<=n:=by
 obtain⟨es,clock,_,_,hs,rfl⟩:=h
 rw[Maps.size_eq,length_sorted]
 simpa using hs
theorem Aot:Keyed Tryz.prog 3:=int_keyed Tryz.underlying3
theorem Ar7 (w:World):(zeroValue 3).run Tryz.prog w = .ok (.int .i64 0) w:=by kernel_rfl
theorem Xk {x:Int} (h:0<=x∧x<=4294967295):(Lit.int .i64 x).wf=true:=WalkArith.wf_i64 (by omega)
theorem Arz {a b:Int} (h1:(Lit.int .i64 a).wf=true) (h2:(Lit.int .i64 b).wf=true):(Lit.int .i64 (max a b)).wf=true:=by
 rcases Int.le_total a b with h | h
 ·rw[Int.max_eq_right h];exact h2
 ·rw[Int.max_eq_left h];exact h1
def Amy (w:World) (n:Nat) (l:List Dot) (i:Value) (wr:World):Prop:=
 ∃ (k:Nat) (D:DU),i = .int .i64 k∧k<=n∧wr.ownsMap Tryz.prog 3 (plainElem Tryz.prog 3) w.heap.size k D∧Below w.heap.size w wr∧Nd D (l.take k)
def Adx (w:World) (D:DU) (n r:Nat) (v:Value) (wr:World):Prop:=
 ∃ (left:Lit->Bool) (cnt:Nat) (acc:List Dot),wr.ranges Tryz.prog 3 (plainElem Tryz.prog 3) w.heap.size r n D left cnt∧Below w.heap.size w wr∧Row wr (r+1) v acc∧r+1<=wr.heap.size∧acc.length+cnt<=n∧Ka D left acc
theorem Ata (A:Option Addr) (n c:Nat) (l:List Dot) (w:World) (h:Bc w A n c l) (hs:Small n) (hv:Ax l=true) :
  Calls Tryz.prog 407 #[.slice A n c] w (Ret w (Dd w.heap.size (Mu l))):=by
 have hmm:=@run_makeMap Tryz.prog
 have hsn:=hs.out
 have hn:=h.big
 have HL:=Avp h.len
 have H:=Avp h;have HV:=Avp hv;clear h hv
 go_enter Tryz.func407,Tryz.ntmps407
 go_wp2
 go_loopw [12] (fun i wr=>Amy w n l i wr) (fun i _=>n - (intOf i).toNat)
 case atStart=>exact⟨0,.map [],rfl,Nat.zero_le _,World.ownsMap_made _ _ _ _,(Below.refl _ _).alloc (Nat.le_refl _) _,Nd.nil_⟩
 case round=>
  obtain⟨k,D,rfl,hk,hown,hb,hm⟩:=hrel
  have OWN:=Avp hown;have HB:=Avp hb;have HM:=Avp hm
  clear hown hb hm
  by_cases hlt:k<n
  ·obtain⟨b,o,x,y,rfl,hbk,e0,d1,c1,c2⟩:=(H.out.mono HB.out).at_ (k:=k) hlt
   have hxy:Bm (x,y)=true:=Cj HV.out (List.mem_of_getElem? e0)
   have hxy':=Hp.1 hxy
   have hx1:0<=x:=by omega
   have hx2:x<=4294967295:=by omega
   have hy1:0<=y:=by omega
   have hy2:y<=4294967295:=by omega
   have wfx:=Avp (Xk ⟨hx1,hx2⟩);have wfy:=Avp (Xk ⟨hy1,hy2⟩)
   have E0:=Avp e0
   have hzr:=World.block_lt_of_cell? wr _ c1
   clear d1 e0 hxy hxy'
   go_wp2_with (first
    | (at_lookup;refine wpList_lookup_own_int _ rfl _ _ 161 rfl 3 3 .i64 Aot Tryz.underlying161 Tryz.underlying3 (Ar7 _) w.heap.size k _ rfl (OWN.out.alloc _) _ _ rfl (keyOf_int_mk Tryz.underlying3 wfx.out) ?_;intro c0 hat hwc;have HAT:=Avp hat;have HWC:=Avp hwc;clear hat hwc)
    | (at_mapUpdate;refine wpList_mapUpdate_own _ rfl _ _ _ 161 rfl 3 3 Aot Tryz.underlying161 _ w.heap.size k _ rfl (OWN.out.alloc _) (by unfold maxLen;omega) _ _ _ rfl rfl (keyOf_int_mk Tryz.underlying3 wfx.out) _ [] (plainElem_int Tryz.underlying3 (Arz HWC.out wfy.out)) ?_;intro w1 hown1 hgrow1;have OWN1:=Avp hown1;have HG1:=Avp hgrow1;clear hown1 hgrow1)
    | go_in)
   go_roundw
   case rel=>exact⟨k+1,_,by simp,hlt,OWN1.out,((HB.out.alloc HB.out.size _).grown HG1.out (by have:=HB.out.size;simp;omega) (fun q hq=>by cases hq;exact Nat.le_refl _)),by rw[Fq E0.out];exact HM.out.put x y c0 HAT.out⟩
   case measure=>simp[intOf];omega
  ·have hm:Nd D l:=by have:=HM.out;rwa [List.take_of_length_le (by rw[<-HL.out];omega)] at this
   have HM2:=Avp hm
   have hown:=OWN.out.mono hk
   have OWN2:=Avp hown
   clear hm HM OWN hown
   go_wp2_with (first
    | (at_range;refine wpList_range_own _ rfl _ 161 rfl 3 3 Aot Tryz.underlying161 _ w.heap.size n D rfl OWN2.out ?_;intro w0 hrg0 hg0 hs0;have RG0:=Avp hrg0;have HG0:=Avp hg0;have HS0:=Avp hs0;clear hrg0 hg0 hs0)
    | go_in)
   go_frame
   have hbw:Below w.heap.size w w0:=HB.out.grown HG0.out HB.out.size (fun q hq=>nomatch hq)
   have start:Adx w D n wr.heap.size (.slice none 0 0) w0:=⟨_,_,[],RG0.out,hbw,Row.nil_ _ _,by rw[HS0.out];omega,by have:=Agq OWN2.out;simp;omega,Ka.start D⟩
   have START:=Avp start
   have hbr:=OWN2.out.lt
   clear start hbw RG0 HG0 HS0
   generalize wr.heap.size=r at *
   go_loopw [6] (fun v w2=>Adx w D n r v w2) (fun _ w2=>w2.rangeLeft w.heap.size r)
   case atStart=>exact START.out
   case round=>
    clear START
    obtain⟨left,cnt,acc,hrg,hb2,hrow,hr2,hcnt,hleft⟩:=hrel
    have RG:=Avp hrg;have HB2:=Avp hb2;have ROW:=Avp hrow;have LEFT:=Avp hleft
    clear hrg hb2 hrow hleft
    go_wp2_with (first
     | (at_next;refine wpList_next_ranges_ii _ rfl _ rfl 3 3 .i64 .i64 Aot Tryz.underlying3 Tryz.underlying3 w.heap.size r n _ _ _ rfl RG.out ?_ ?_)
     | go_in)
    ·intro _ hl0
     have HL0:=Avp hl0
     clear hl0
     have F:=Avp (Ato (r+1) u6 acc wr ROW.out (by unfold Small;omega))
     go_wp2_with (go_at_call 436;((with_reducible refine F.out.mono ?_);rintro e w1 ⟨rfl,hb3,l',hso,hr3⟩;have HB3:=Avp hb3;have HSO:=Avp hso;have HR3:=Avp hr3;clear hb3 hso hr3))
     go_ret
     have e:=Al4 HM2.out LEFT.out HL0.out HV.out HSO.out
     exact⟨_,rfl,HB2.out.trans (HB3.out.mono (by omega)),by rw[<-e];exact Row.low HR3.out (by omega)⟩
    ·intro x c w1 cnt1 hwx hwc hlx hat hrg1 hlt hg1 hs1 hen
     have hle:=LEFT.out.next x c hlx hat
     have hro:Row w1 (r+1) u6 acc:=Row.grown ROW.out hg1 (.inr (fun e=>by have:=Row.own _ ROW.out r e;omega))
     have hd:=Bc.one w1 x c
     rw[hs1] at hd
     have hb3:Below w.heap.size w w1:=HB2.out.grown hg1 HB2.out.size (fun q hq=>by cases hq;omega)
     have RG1:=Avp hrg1;have LE:=Avp hle;have RO:=Avp hro;have D1:=Avp hd;have HB3:=Avp hb3;have LT:=Avp hlt;have HS1:=Avp hs1
     clear hlx hat hrg1 hlt hg1 hle hro hd hb3 ROW LEFT hwx hwc
     go_wp2_with (at_builtin;refine D4 (B:=r+1) (l:=acc) (k:=[(x,c)]) rfl rfl Tryz.underlying136 rfl rfl (Row.mono RO.out (by go_grown)) D1.out (by simp;omega) (by simp;omega) ?_;intro v' w' hr' hg';have HR':=Avp hr';have HG':=Avp hg';clear hr' hg';simp only[Act.put,List.setIfInBounds_toArray,List.set_cons_zero,List.set_cons_succ])
     have hlow:∀ q,u6.ownBlock=some q->r+1<=q:=fun q hq=>Row.own _ RO.out q hq
     have hrgn:=(RG1.out.alloc (.cells #[.int .i64 x,.int .i64 c] 224)).kept HG'.out (fun e=>by have:=hlow _ e.symm;omega) (fun e=>by have:=hlow _ e.symm;omega)
     go_roundw
     case rel=>exact⟨_,cnt1,acc++[(x,c)],hrgn,(HB3.out.alloc HB3.out.size _).grown HG'.out (by have:=HB3.out.size;simp;omega) (fun q hq=>by have:=hlow q hq;omega),HR'.out,Nat.le_trans (by simp;omega) HG'.out.size,by have:=LT.out;simp;omega,LE.out⟩
     case measure=>rw[hrgn.left_eq,RG.out.left_eq];exact LT.out
end Go.Proofs.YthnbhjpahlceeaaGreatDoor
namespace Go.Proofs.YthnbhjpahlceeaaGreatDoor
open Go.RowKit
def Dw (F:VT) (k:Int) (w:World) (v:Value):Prop:=∃ x,v = .tuple #[x,.int .i64 k]∧F w x
instance (F:VT) [hF:Grows F] (k:Int):Grows (Dw F k):=⟨fun hb ⟨x,e,h⟩=>⟨x,e,hF.up hb h⟩⟩
theorem Aj5 (A A':Option Addr) (n c m d:Nat) (a b:List Dot) (w:World) (ha:Bc w A n c a) (hb:Bc w A' m d b) (hs:Small (n+m)) (va:Eb a=true) (vb:Eb b=true) :
  Calls Tryz.prog 346 #[.slice A n c,.slice A' m d] w (Ret w (Dw (Dd w.heap.size (Ex a b)) 0)):=by
 have f1:=Ab3 A n c a w ha
 rw[va] at f1
 have F1:=Avp f1;have HA:=Avp ha;have HB:=Avp hb;have VA:=Avp va;have VB:=Avp vb
 clear f1 ha hb va vb
 go_enter Tryz.func346,Tryz.ntmps346
 go_wp2_with fail
 refine F1.out.mono ?_
 rintro e w1 ⟨_,rfl,hb1,rfl⟩
 have f2:=Ab3 A' m d b w1 (HB.out.mono hb1)
 rw[VB.out] at f2
 have F2:=Avp f2;clear f2 F1
 go_wp2_with fail
 refine F2.out.mono ?_
 rintro e w2 ⟨_,rfl,hb2,rfl⟩
 have hb12:=hb1.le hb2
 have hb3:Below w.heap.size w (w2.alloc (.cells #[.slice A n c,.slice A' m d] 136)):=hb12.alloc hb12.size _
 have f3:=Am9 A A' n c m d w2.heap.size a b (w2.alloc (.cells #[.slice A n c,.slice A' m d] 136)) (HA.out.mono hb3) (HB.out.mono hb3) hs (by simp[go_sem]) (by simp[go_sem])
 have F3:=Avp f3;have HB3:=Avp hb3
 have hsz:=hb3.size
 clear f3 F2 hb12 hb1 hb2 hb3
 go_wp2_with fail
 refine F3.out.mono ?_
 rintro e w3 ⟨v,rfl,hb4,hr⟩
 obtain⟨A3,n3,c3,rfl,hd3⟩:=Dd.dots hr
 have hb5:=HB3.out.le hb4
 obtain⟨i1,v1⟩:Jt a=true∧Ax a=true:=by have:=VA.out;unfold Eb at this;simpa using this
 obtain⟨i2,v2⟩:Jt b=true∧Ax b=true:=by have:=VB.out;unfold Eb at this;simpa using this
 have f4:=Ata A3 n3 c3 (a++b) w3 hd3 (by have:=hs.out;have:=HA.out.len;have:=HB.out.len;have:=hd3.len;unfold Small;simp at this;omega) (Hb fun x hx=>by rcases List.mem_append.1 hx with h | h;exact Cj v1 h;exact Cj v2 h)
 rw[Wo ((Mv a).1 i1) v1] at f4
 have F4:=Avp f4;have HB5:=Avp hb5
 have hsz2:=hb5.size
 clear f4 F3 hb4 hb5 hr hd3 i1 i2 v1 v2 HB3
 go_wp2_with fail
 refine F4.out.mono ?_
 rintro e w4 ⟨v,rfl,hb6,hr⟩
 have HB6:=Avp (HB5.out.le hb6);have HR:=Avp (Row.low hr hsz2)
 clear hb6 hr F4
 go_wp2_with fail
 go_ret2
 exact⟨_,rfl,HB6.out,_,rfl,HR.out⟩
theorem If:∀ (b a:List Dot),(Ex a b).length<=a.length+b.length
 | [],a=>Nat.le_refl _
 | d::t,a=>by
  have h1:=If t (Cq a d)
  have h2:=Ie a d
  show(Ex (Cq a d) t).length<=a.length+(t.length+1)
  omega
theorem Ap6 (x y:Int) (A:Option Addr) (n c:Nat) (l:List Dot) (w:World) (h:Bc w A n c l) (hs:Small (n+1)) (hv:Eb l=true) (hd:Bm (x,y)=true) :
  Calls Tryz.prog 409 #[.slice A n c,.agg #[.int .i64 x,.int .i64 y]] w (Ret w (Dw (Dd w.heap.size (Cq l (x,y))) 0)):=by
 have hb0:Below w.heap.size w ((w.alloc (.cells #[.int .i64 x,.int .i64 y] 224)).alloc (.cells #[.int .i64 x,.int .i64 y] 224)):=by go_grown
 have f1:=Aj5 A (some ⟨w.heap.size+1,0,none⟩) n c 1 1 l [(x,y)] ((w.alloc (.cells #[.int .i64 x,.int .i64 y] 224)).alloc (.cells #[.int .i64 x,.int .i64 y] 224)) (h.mono hb0) (by have:=Bc.one (w.alloc (.cells #[.int .i64 x,.int .i64 y] 224)) x y;simpa using this) hs hv (by unfold Eb Ax;simp[Jt,hd])
 rw[Afs] at f1
 have F1:=Avp f1;have HB0:=Avp hb0
 clear f1 hb0 h hv hd
 go_enter Tryz.func409,Tryz.ntmps409
 go_wp2_with fail
 refine F1.out.mono ?_
 rintro e w1 ⟨_,rfl,hb1,v,rfl,hr⟩
 have HB1:=Avp (HB0.out.le hb1);have HR:=Avp (Row.low hr HB0.out.size)
 clear hb1 hr F1
 go_wp2
 go_ret2
 exact⟨_,rfl,HB1.out,_,rfl,HR.out⟩
theorem Row.asDots {w:World} {B:Nat} {A:Option Addr} {n c:Nat} {l:List Dot} (h:Row w B (.slice A n c) l):Bc w A n c l:=by
 obtain⟨A',c',e,hd⟩:=Row.dots h
 cases e;exact hd
theorem Row.upto {w:World} {B:Nat} {v:Value} {l:List Dot} (h:Row w B v l):∀ k,v.ownBlock=some k->k<w.heap.size:=fun k hk=>(World.ownsRow.lt h k hk).2
structure CAt (b0 N:Nat) (W wr:World) (c s:Ctx) (A1:Option Addr) (n1 c1:Nat) (A2:Option Addr) (n2 c2:Nat) (l:List Dot):Prop where
 cell0:wr.cell? ⟨N,0,none⟩=some (.slice A1 n1 c1)
 cell1:wr.cell? ⟨N,1,none⟩=some (.slice A2 n2 c2)
 free:∀ o,wr.frozen? ⟨N,o,none⟩=false
 below:Below N W wr
 low:b0<=N
 r1:Row wr b0 (.slice A1 n1 c1) s.1
 o1:∀ k,(Value.slice A1 n1 c1).ownBlock=some k->k≠N
 r2:Row wr (N+1) (.slice A2 n2 c2) s.2
 apart:∀ k,(Value.slice A1 n1 c1).ownBlock=some k->(Value.slice A2 n2 c2).ownBlock≠some k
 mid:Mid c s l
 big:N+1<=wr.heap.size
section
variable {b0 N:Nat} {W wr w1:World} {c s:Ctx} {A1 A2 A3:Option Addr} {n1 c1 n2 c2 n3 c3:Nat} {l t:List Dot} {d:Dot}
theorem CAt.mono (h:CAt b0 N W wr c s A1 n1 c1 A2 n2 c2 l) (hE:Below wr.heap.size wr w1):CAt b0 N W w1 c s A1 n1 c1 A2 n2 c2 l:=
 ⟨Ad hE h.cell0,Ad hE h.cell1,fun o=>(hE.frozen (p:=⟨N,o,none⟩) h.big).trans (h.free o),h.below.trans (hE.mono (by have:=h.big;omega)),h.low,Row.mono h.r1 hE,h.o1,Row.mono h.r2 hE,h.apart,h.mid,Nat.le_trans h.big hE.size⟩
theorem CAt.skip (h:CAt b0 N W wr c s A1 n1 c1 A2 n2 c2 (d::t)) (hs:Ek s d=s):CAt b0 N W wr c s A1 n1 c1 A2 n2 c2 t:=
 ⟨h.cell0,h.cell1,h.free,h.below,h.low,h.r1,h.o1,h.r2,h.apart,by have:=h.mid.next;rwa [hs] at this,h.big⟩
theorem CAt.raise (h:CAt b0 N W wr c s A1 n1 c1 A2 n2 c2 (d::t)) (hs:Ek s d=(Cq s.1 d,s.2)) (hE:Below wr.heap.size wr w1) (hr:Row w1 wr.heap.size (.slice A3 n3 c3) (Cq s.1 d)) :
  CAt b0 N W (w1.setCell ⟨N,0,none⟩ (.slice A3 n3 c3)) c (Cq s.1 d,s.2) A3 n3 c3 A2 n2 c2 t:=by
 have hg:=h.mono hE
 have hbig:=h.big
 have hown:∀ k,(Value.slice A3 n3 c3).ownBlock=some k->wr.heap.size<=k:=fun k hk=>Row.own _ hr k hk
 refine⟨Ca hg.cell0,Cs (by simp) hg.cell1,fun o=>(World.frozen?_setCell _ _ _ _).trans (hg.free o),hg.below.setCell (p:=⟨N,0,none⟩) (by simp) _,h.low,Row.set_ (Row.low hr (by have:=h.low;omega)) (fun k hk=>by have:=hown k hk;show k≠N;omega) _,
  fun k hk=>by have:=hown k hk;omega,Row.set_ hg.r2 (fun k hk=>by have:=Row.own _ hg.r2 k hk;show k≠N;omega) _,fun k hk e=>?_,by have:=h.mid.next;rwa [hs] at this,by have:=hg.big;simp[World.setCell];omega⟩
 have h1:=hown k hk
 have h2:=Row.upto h.r2 k e
 omega
theorem CAt.put {v':Value} (h:CAt b0 N W wr c s A1 n1 c1 A2 n2 c2 (d::t)) (hs:Ek s d=(s.1,s.2++[d])) (ev:v' = .slice A3 n3 c3) (hr:Row w1 (N+1) v' (s.2++[d])) (hg:wr.grownBy w1 (Value.slice A2 n2 c2).ownBlock)
  (hw:∀ g,v'.ownBlock=some g->(Value.slice A2 n2 c2).ownBlock=some g∨wr.heap.size<=g) :
  CAt b0 N W (w1.setCell ⟨N,1,none⟩ v') c (s.1,s.2++[d]) A1 n1 c1 A3 n3 c3 t:=by
 subst ev
 have hbig:=h.big
 have hne:some N≠(Value.slice A2 n2 c2).ownBlock:=fun e=>by have:=Row.own _ h.r2 N e.symm;omega
 have r1:Row w1 b0 (.slice A1 n1 c1) s.1:=Row.grown h.r1 hg (by
  cases e:(Value.slice A1 n1 c1).ownBlock with
  | none=>exact .inl rfl
  | some k=>exact .inr (fun e2=>h.apart k e e2.symm))
 refine⟨Cs (by simp) (hg.cell h.cell0 hne),Ca (hg.cell h.cell1 hne),fun o=>(World.frozen?_setCell _ _ _ _).trans ((World.frozen?_of_block (hg.block N (by omega) hne)).trans (h.free o)),
  (h.below.grown hg (by omega) (fun q hq=>by have:=Row.own _ h.r2 q hq;omega)).setCell (p:=⟨N,1,none⟩) (by simp) _,h.low,Row.set_ r1 (fun k hk=>h.o1 k hk) _,h.o1,Row.set_ hr (fun k hk=>by have:=Row.own _ hr k hk;show k≠N;omega) _,
  fun k hk e=>?_,by have:=h.mid.next;rwa [hs] at this,by have:=hg.size;simp[World.setCell];omega⟩
 rcases hw k e with h1 | h1
 ·exact h.apart k hk h1
 ·have:=Row.upto h.r1 k hk;omega
end
theorem Afy {s:Ctx} {d:Dot} (hd:Bm d=true) (h:d.2<=By s.1 d.1):Ek s d=s:=by unfold Ek;rw[if_pos ((Hl hd).2 h)]
theorem Aac {s:Ctx} {d:Dot} (hd:Bm d=true) (h:d.2=By s.1 d.1+1):Ek s d=(Cq s.1 d,s.2):=by unfold Ek;rw[if_neg (fun e=>by have:=(Hl hd).1 e;omega),if_pos (by simpa using h)]
theorem Ahz {s:Ctx} {d:Dot} (hd:Bm d=true) (h:By s.1 d.1+1<d.2):Ek s d=(s.1,s.2++[d]):=by unfold Ek;rw[if_neg (fun e=>by have:=(Hl hd).1 e;omega),if_neg (by simp;omega)]
def Ec (b:Nat) (c:Ctx) (w:World) (v:Value):Prop:=∃ A n ca B m cb,v = .agg #[.slice A n ca,.slice B m cb]∧Row w b (.slice A n ca) c.1∧Row w b (.slice B m cb) c.2∧∀ k,(Value.slice A n ca).ownBlock=some k->(Value.slice B m cb).ownBlock≠some k
instance (b:Nat) (c:Ctx):Grows (Ec b c):=⟨fun hb ⟨A,n,ca,B,m,cb,e,h1,h2,h3⟩=>⟨A,n,ca,B,m,cb,e,h1.mono hb,h2.mono hb,h3⟩⟩
theorem Ec.low {b b':Nat} {c:Ctx} {w:World} {v:Value} (h:Ec b c w v) (hb:b'<=b):Ec b' c w v:=let ⟨A,n,ca,B,m,cb,e,h1,h2,h3⟩:=h;⟨A,n,ca,B,m,cb,e,h1.low hb,h2.low hb,h3⟩
theorem Ec.nil_ (b:Nat) (w:World):Ec b ([],[]) w (.agg #[.slice none 0 0,.slice none 0 0]):=⟨none,0,0,none,0,0,rfl,Row.nil_ _ _,Row.nil_ _ _,fun k hk=>by simp[Value.ownBlock] at hk⟩
def Zf (b0 N:Nat) (W:World) (n m:Nat) (c:Ctx) (i:Value) (wr:World):Prop:=
 ∃ (k:Nat) (s:Ctx) (A1:Option Addr) (n1 c1:Nat) (A2:Option Addr) (n2 c2:Nat),i = .int .i64 k∧k<=m∧CAt b0 N W wr c s A1 n1 c1 A2 n2 c2 (c.2.drop k)∧n1<=n+k∧n2<=k∧H5 c=(c.2.drop k).foldl Ek s
theorem Zs (A B:Option Addr) (n ca m cb:Nat) (c:Ctx) (w:World) (h:Con w A n ca B m cb c) (hs:Small (n+m+1)) (hv:Dy c=true) :
  Calls Tryz.prog 347 #[.agg #[.slice A n ca,.slice B m cb]] w (Ret w (Dw (Ec w.heap.size (H5 c)) 0)):=by
 have hb0:Below w.heap.size w ((w.alloc (Ba A n ca B m cb)).alloc (Ba none 0 0 none 0 0)):=by go_grown
 have y0:((w.alloc (Ba A n ca B m cb)).alloc (Ba none 0 0 none 0 0)).cell? ⟨w.heap.size,0,none⟩=some (.slice A n ca):=by simp[go_sem]
 have y1:((w.alloc (Ba A n ca B m cb)).alloc (Ba none 0 0 none 0 0)).cell? ⟨w.heap.size,1,none⟩=some (.slice B m cb):=by simp[go_sem]
 have z0:((w.alloc (Ba A n ca B m cb)).alloc (Ba none 0 0 none 0 0)).cell? ⟨w.heap.size+1,0,none⟩=some (.slice none 0 0):=by simp[go_sem]
 have z1:((w.alloc (Ba A n ca B m cb)).alloc (Ba none 0 0 none 0 0)).cell? ⟨w.heap.size+1,1,none⟩=some (.slice none 0 0):=by simp[go_sem]
 have zf:∀ o,((w.alloc (Ba A n ca B m cb)).alloc (Ba none 0 0 none 0 0)).frozen? ⟨w.heap.size+1,o,none⟩=false:=fun o=>by simp[go_sem]
 have h0:=h.mono hb0
 have f:=Hc A B n ca m cb c _ h0
 rw[hv] at f
 have hm:=h.k.big
 have hsn:=hs.out
 have F:=Avp f;have HB:=Avp hb0;have Y0:=Avp y0;have Y1:=Avp y1;have Z0:=Avp z0;have Z1:=Avp z1;have ZF:=Avp zf;have H:=Avp h;have H0:=Avp h0;have HV:=Avp hv
 clear f hb0 y0 y1 z0 z1 zf h h0 hv
 go_enter Tryz.func347,Tryz.ntmps347
 go_wp2_with (go_at_call 327;((with_reducible refine F.out.mono ?_);rintro e w1 ⟨_,rfl,hb1,rfl⟩;have HB1:=Avp hb1;have x0:=Ad hb1 Y0.out;clear hb1))
 have f2:=Tt A n ca c.1 w1 (H0.out.v.mono HB1.out) (by unfold Small;omega)
 have F2:=Avp f2;clear f2
 refine F2.out.mono ?_
 rintro e w2 ⟨v,rfl,hb2,hr2⟩
 obtain⟨A1,n1,c1,rfl,hd1⟩:=Dd.dots hr2
 have hn1:n1<=n:=by rw[hd1.len,H.out.v.len];exact Nat.le_refl _
 have HB2:=Avp (HB1.out.le hb2);have HR2:=Avp hr2
 have x1:=Ad HB2.out Y1.out
 have hz2:w.heap.size+1<w2.heap.size:=World.block_lt_of_cell? w2 _ (Ad HB2.out Z0.out)
 have hz3:w.heap.size<w2.heap.size:=by omega
 clear hb2 hr2 hd1 F F2 x0
 go_wp2
 have hw2:Below w2.heap.size w2 (w2.alloc (Ba A1 n1 c1 none 0 0)):=(Below.refl _ _).alloc (Nat.le_refl _) _
 have hsz1:=HB1.out.size
 have start:Zf (w.heap.size+2) w2.heap.size w2 n m c (.int .i64 ((0:Nat):Int)) (w2.alloc (Ba A1 n1 c1 none 0 0)):=
  ⟨0,(c.1,[]),A1,n1,c1,none,0,0,rfl,Nat.zero_le _,⟨by simp[go_sem],by simp[go_sem],fun o=>by simp[go_sem],hw2,by omega,Row.low (Row.mono HR2.out hw2) (by simp at hsz1;omega),fun k hk=>by have:=Row.upto HR2.out k hk;omega,Row.nil_ _ _,fun k hk=>by simp[Value.ownBlock],Mid.start (Lt.1 HV.out),by simp⟩,hn1,Nat.le_refl _,rfl⟩
 have START:=Avp start
 have HCK:=Avp (H0.out.k.mono HB2.out)
 have HLK:=Avp H.out.k.len
 have Z20:=Avp (Ad HB2.out Z0.out);have Z21:=Avp (Ad HB2.out Z1.out)
 have ZF2:=Avp (fun o=>(HB2.out.frozen (p:=⟨w.heap.size+1,o,none⟩) (by simp)).trans (ZF.out o))
 have HBW:=Avp (HB.out.le HB2.out)
 clear start hw2 x1 HR2 HB2 HB1 HB Y0 Y1 Z0 Z1 ZF H0 H HV hsz1 hn1
 go_loopw [19] (fun i wr=>Zf (w.heap.size+2) w2.heap.size w2 n m c i wr) (fun i _=>m - (intOf i).toNat)
 case atStart=>exact START.out
 case round=>
  clear START
  obtain⟨k,s,A3,n3,c3,A4,n4,c4,rfl,hk,hat,hn3,hn4,hf⟩:=hrel
  have hbig:=hat.big
  have hcl0:=hat.cell0
  have hcl1:=hat.cell1
  have hfr0:=hat.free 0
  have hfr1:=hat.free 1
  have HAT:=Avp hat;have HF:=Avp hf
  clear hat hf
  have hzN:w2.heap.size<wr.heap.size:=by omega
  by_cases hlt:k<m
  ·obtain⟨b,o,x,y,rfl,hbk,e0,d1,k1,k2⟩:=(HCK.out.mono HAT.out.below).at_ (k:=k) hlt
   have hd:Bm (x,y)=true:=Cj HAT.out.mid.dots (List.mem_append_right _ (by rw[d1];exact List.mem_cons_self))
   have hat:=HAT.out
   rw[d1] at hat
   have HA:=Avp hat
   have hbw:Below wr.heap.size wr (wr.alloc (.cells #[.int .i64 x,.int .i64 y] 224)):=by go_grown
   have hA2:=hat.mono hbw
   have fg:=Aru A3 n3 c3 s.1 x _ hA2.r1.asDots
   have hgb:=Nf s.1 x hat.mid.vec
   have hyb:=Hp.1 hd
   have hx1:1<=x:=hyb.1
   have hy1:1<=y:=hyb.2.2.1
   have hy2:y<=4294967295:=hyb.2.2.2
   have ss:=Afy (s:=s) hd;have sr:=Aac (s:=s) hd;have sp:=Ahz (s:=s) hd
   simp only at ss sr sp
   have D1:=Avp d1;have A2:=Avp hA2;have HD:=Avp hd;have FG:=Avp fg
   clear d1 hat hA2 hd fg e0 hyb hbw
   have hst:∀ w3,Below (wr.alloc (.cells #[.int .i64 x,.int .i64 y] 224)).heap.size (wr.alloc (.cells #[.int .i64 x,.int .i64 y] 224)) w3->w3.cell? ⟨wr.heap.size,0,none⟩=some (.int .i64 x)∧w3.cell? ⟨wr.heap.size,1,none⟩=some (.int .i64 y)∧wr.heap.size<w3.heap.size:=fun w3 hb3=>
    ⟨Ad hb3 (by simp[go_sem]),Ad hb3 (by simp[go_sem]),by have:=hb3.size;simp at this;omega⟩
   have HST:=Avp hst
   clear hst
   have hn3':n3<=9223372036854775807:=by omega
   go_wp2_with fail
   refine FG.out.mono ?_
   rintro e w3 ⟨_,rfl,hb3,rfl⟩
   obtain⟨t0,t1,hz5⟩:=HST.out w3 hb3
   have A3':=Avp (A2.out.mono hb3)
   have HB3:=Avp hb3
   have u0:=A3'.out.cell0;have u1:=A3'.out.cell1;have v0:=A3'.out.free 0;have v1:=A3'.out.free 1
   have hzN3:w2.heap.size<w3.heap.size:=by omega
   clear hb3 A2 FG HST hcl0 hcl1 hfr0 hfr1 HAT HA
   by_cases h1:y<=By s.1 x
   ·have HS:=Avp (ss h1)
    clear ss sr sp
    generalize By s.1 x=g at *
    have hne:(y==g+1)=false:=by rw[beq_eq_false_iff_ne];omega
    have hgt:decide (g+1<y)=false:=by rw[decide_eq_false_iff_not];omega
    have hw:IntKind.i64.wrap (g+1)=g+1:=IntWalk.i64_in _ (by omega)
    go_wp2
    go_roundw
    case rel=>exact⟨k+1,s,_,_,_,_,_,_,by simp,hlt,A3'.out.skip HS.out,by omega,by omega,by rw[HF.out,D1.out,List.foldl_cons,HS.out]⟩
    case measure=>simp[intOf];omega
   ·by_cases h2:y=By s.1 x+1
    ·have HS:=Avp (sr h2)
     have hvv:Eb s.1=true:=by unfold Eb;rw[(Mv s.1).2 A3'.out.mid.inc,A3'.out.mid.vec];rfl
     have F:=Avp (Ap6 x y A3 n3 c3 s.1 w3 A3'.out.r1.asDots (by unfold Small;omega) hvv HD.out)
     have hl3:=Avp A3'.out.r1.asDots.len
     clear ss sr sp hvv
     generalize hgg:By s.1 x=g at *
     clear hgg
     have hne:(y==g+1)=true:=by rw[beq_iff_eq];omega
     have hgt:decide (g+1<y)=false:=by rw[decide_eq_false_iff_not];omega
     have H2:=Avp h2
     clear h2
     go_wp2_with fail
     refine F.out.mono ?_
     rintro e w4 ⟨_,rfl,hb4,v,rfl,hr⟩
     obtain⟨A5,n5,c5,rfl,hd5⟩:=Dd.dots hr
     have hn5:n5<=n+(k+1):=by have h3:=Ie s.1 (x,y);have h4:=hd5.len;have h5:=hl3.out;omega
     have A4':=Avp (A3'.out.raise HS.out hb4 hr)
     have y0:=Ad hb4 A3'.out.cell0
     have y1:=(hb4.frozen (p:=⟨w2.heap.size,0,none⟩) hzN3).trans (A3'.out.free 0)
     have hzN4:w2.heap.size<w4.heap.size:=by have:=hb4.size;omega
     clear hb4 hr hd5 F u0 u1 v0 v1 t0 t1
     go_wp2
     go_roundw
     case rel=>exact⟨k+1,_,_,_,_,_,_,_,by simp,hlt,A4'.out,hn5,by omega,by rw[HF.out,D1.out,List.foldl_cons,HS.out]⟩
     case measure=>simp[intOf];omega
    ·have HS:=Avp (sp (by omega))
     have hl4:=Avp A3'.out.r2.asDots.len
     clear ss sr sp
     generalize hgg:By s.1 x=g at *
     clear hgg
     have hgt:decide (g+1<y)=true:=by rw[decide_eq_true_iff];omega
     have hb5:Below w3.heap.size w3 (w3.alloc (.cells #[.int .i64 x,.int .i64 y] 224)):=by go_grown
     have A4':=Avp (A3'.out.mono hb5)
     have DD:=Avp (Bc.one w3 x y)
     clear hb5
     go_wp2_with (at_builtin;refine Ow (B:=w2.heap.size+1) (v:=.slice A4 n4 c4) (l:=s.2) (k:=[(x,y)]) rfl rfl Tryz.underlying135 rfl rfl A4'.out.r2 DD.out (by have:=hl4.out;simp;omega) (by simp;omega) ?_;intro v' w4 hr' hg' hw';obtain⟨A5,n5,c5,ev,hd5⟩:=Dd.dots hr';have hn5:n5<=k+1:=(by have h4:=hd5.len;have h5:=hl4.out;simp at h4;omega);have A5':=Avp (A4'.out.put HS.out ev hr' hg' hw');have y0:=Ad (w:=w4) (Below.refl _ _) (hg'.cell A4'.out.cell1 (fun e=>by have h:w2.heap.size+1<=w2.heap.size:=Row.own _ A4'.out.r2 _ e.symm;omega));have hzN4:w2.heap.size<w4.heap.size:=World.block_lt_of_cell? w4 _ y0;have y1:=(World.frozen?_of_block (a:=⟨w2.heap.size,1,none⟩) (hg'.block w2.heap.size (by have:=A4'.out.big;omega) (fun e=>by have h:w2.heap.size+1<=w2.heap.size:=Row.own _ A4'.out.r2 _ e.symm;omega))).trans (A4'.out.free 1);subst ev;clear hr' hg' hw' hd5 u0 u1 v0 v1 t0 t1;simp only[Act.put,List.setIfInBounds_toArray,List.set_cons_zero,List.set_cons_succ])
     go_roundw
     case rel=>exact⟨k+1,_,_,_,_,_,_,_,by simp,hlt,A5'.out,by omega,hn5,by rw[HF.out,D1.out,List.foldl_cons,HS.out]⟩
     case measure=>simp[intOf];omega
  ·have hs0:H5 c=s:=by have:=HF.out;rwa [List.drop_of_length_le (by rw[<-HLK.out];omega)] at this
   have HSS:=Avp hs0
   have y0:=(HAT.out.below.cell (p:=⟨w.heap.size+1,0,none⟩) (by show w.heap.size+1<_;omega)).trans Z20.out
   have y1:=(HAT.out.below.cell (p:=⟨w.heap.size+1,1,none⟩) (by show w.heap.size+1<_;omega)).trans Z21.out
   have yf0:=(HAT.out.below.frozen (p:=⟨w.heap.size+1,0,none⟩) (by show w.heap.size+1<_;omega)).trans (ZF2.out 0)
   have yf1:=(HAT.out.below.frozen (p:=⟨w.heap.size+1,1,none⟩) (by show w.heap.size+1<_;omega)).trans (ZF2.out 1)
   have hz9:w.heap.size+1<wr.heap.size:=by omega
   clear hs0 HF
   go_wp2
   have s0:=Ca (v:=.slice A3 n3 c3) y0
   have s1:=Ca (v:=.slice A4 n4 c4) (Cs (b:=⟨w.heap.size+1,0,none⟩) (v:=.slice A3 n3 c3) (by simp) y1)
   refine bodyPost_ret (v:=.tuple #[.agg #[.slice A3 n3 c3,.slice A4 n4 c4],.int .i64 0]) (by simp[results,Tryz.results347,go_sem,s0,s1]) rfl ?_
   have ho1:∀ j,(Value.slice A3 n3 c3).ownBlock=some j->j≠w.heap.size+1:=fun j hj=>by have:=Row.own _ HAT.out.r1 j hj;omega
   have ho2:∀ j,(Value.slice A4 n4 c4).ownBlock=some j->j≠w.heap.size+1:=fun j hj=>by have:=Row.own _ HAT.out.r2 j hj;omega
   refine⟨_,rfl,((HBW.out.trans (HAT.out.below.mono (by omega))).setCell (p:=⟨w.heap.size+1,0,none⟩) (by simp) _).setCell (p:=⟨w.heap.size+1,1,none⟩) (by simp) _,_,rfl,?_⟩
   rw[HSS.out]
   exact⟨_,_,_,_,_,_,rfl,Row.low (Row.set_ (Row.set_ HAT.out.r1 (p:=⟨w.heap.size+1,0,none⟩) ho1 _) (p:=⟨w.heap.size+1,1,none⟩) ho1 _) (by omega),Row.low (Row.set_ (Row.set_ HAT.out.r2 (p:=⟨w.heap.size+1,0,none⟩) ho2 _) (p:=⟨w.heap.size+1,1,none⟩) ho2 _) (by omega),HAT.out.apart⟩
theorem Sh:Enters Tryz.prog 347:=enters_of Tryz.func347 (by kernel_rfl) rfl
theorem U2 (s:Ctx) (d:Dot):(Ek s d).1.length<=s.1.length+1∧(Ek s d).2.length<=s.2.length+1:=by
 unfold Ek
 split
 ·exact⟨by omega,by omega⟩
 ·split
  ·exact⟨Ie _ _,by show s.2.length<=_;omega⟩
  ·exact⟨by show s.1.length<=_;omega,by simp⟩
theorem Nj:∀ (l:List Dot) (s:Ctx),(l.foldl Ek s).1.length<=s.1.length+l.length∧(l.foldl Ek s).2.length<=s.2.length+l.length
 | [],s=>⟨Nat.le_refl _,Nat.le_refl _⟩
 | d::t,s=>by
  obtain⟨h1,h2⟩:=U2 s d
  obtain⟨h3,h4⟩:=Nj t (Ek s d)
  rw[List.foldl_cons,List.length_cons]
  exact⟨by omega,by omega⟩
theorem W6 (c:Ctx):(H5 c).1.length<=c.1.length+c.2.length∧(H5 c).2.length<=c.2.length:=by
 obtain⟨h1,h2⟩:=Nj c.2 (c.1,[])
 exact⟨h1,by unfold H5;simpa using h2⟩
theorem Ret.imp {w w':World} {F G:VT} {e:Ending} (h:Ret w F e w') (hfg:∀ v,F w' v->G w' v):Ret w G e w':=let ⟨v,e,hb,hf⟩:=h;⟨v,e,hb,hfg v hf⟩
theorem Dw.imp {w:World} {F G:VT} {k:Int} {v:Value} (h:Dw F k w v) (hfg:∀ v,F w v->G w v):Dw G k w v:=let ⟨x,e,hf⟩:=h;⟨x,e,hfg x hf⟩
theorem Avh {w:World} {F:VT} {k:Int} {v:Value} (h:Dw F k w v):∃ r,(Instr.extract v 0).run Tryz.prog w = .ok r w∧F w r:=by
 obtain⟨x,rfl,hf⟩:=h
 exact⟨x,by simp[go_sem],hf⟩
theorem Auj {w:World} {F:VT} {k:Int} {v:Value} (h:Dw F k w v):∃ r,(Instr.extract v 1).run Tryz.prog w = .ok r w∧Is (.int .i64 k) w r:=by
 obtain⟨x,rfl,hf⟩:=h
 exact⟨.int .i64 k,by simp[go_sem],rfl⟩
theorem Aoo (A B C:Option Addr) (n ca m cb k ck:Nat) (c:Ctx) (l:List Dot) (w:World) (h:Con w A n ca B m cb c) (hl:Bc w C k ck l) (hv:(Dy c&&Ax l)=false) :
  Calls Tryz.prog 343 #[.agg #[.slice A n ca,.slice B m cb],.slice C k ck] w (Ret w (Dw (Ec w.heap.size ([],[])) 2)):=by
 have hb0:Below w.heap.size w ((w.alloc (Ba A n ca B m cb)).alloc (Ba none 0 0 none 0 0)):=by go_grown
 have z0:((w.alloc (Ba A n ca B m cb)).alloc (Ba none 0 0 none 0 0)).cell? ⟨w.heap.size+1,0,none⟩=some (.slice none 0 0):=by simp[go_sem]
 have z1:((w.alloc (Ba A n ca B m cb)).alloc (Ba none 0 0 none 0 0)).cell? ⟨w.heap.size+1,1,none⟩=some (.slice none 0 0):=by simp[go_sem]
 have zf:∀ o,((w.alloc (Ba A n ca B m cb)).alloc (Ba none 0 0 none 0 0)).frozen? ⟨w.heap.size+1,o,none⟩=false:=fun o=>by simp[go_sem]
 have f:=Hc A B n ca m cb c _ (h.mono hb0)
 have l0:=hl.mono hb0
 have HB:=Avp hb0;have Z0:=Avp z0;have Z1:=Avp z1;have ZF:=Avp zf;have L0:=Avp l0
 have fin:∀ w1,Below ((w.alloc (Ba A n ca B m cb)).alloc (Ba none 0 0 none 0 0)).heap.size ((w.alloc (Ba A n ca B m cb)).alloc (Ba none 0 0 none 0 0)) w1->w1.cell? ⟨w.heap.size+1,0,none⟩=some (.slice none 0 0)∧w1.cell? ⟨w.heap.size+1,1,none⟩=some (.slice none 0 0)∧w1.frozen? ⟨w.heap.size+1,0,none⟩=false∧w1.frozen? ⟨w.heap.size+1,1,none⟩=false∧w.heap.size+1<w1.heap.size:=fun w1 hb1=>
  ⟨Ad hb1 Z0.out,Ad hb1 Z1.out,(hb1.frozen (p:=⟨w.heap.size+1,0,none⟩) (by simp)).trans (ZF.out 0),(hb1.frozen (p:=⟨w.heap.size+1,1,none⟩) (by simp)).trans (ZF.out 1),World.block_lt_of_cell? w1 _ (Ad hb1 Z0.out)⟩
 have FIN:=Avp fin
 clear hb0 z0 z1 zf h hl l0 fin
 cases hc:Dy c with
 | false=>
  rw[hc] at f
  have F:=Avp f;clear f hv hc
  go_enter Tryz.func343,Tryz.ntmps343
  go_wp2_with fail
  refine F.out.mono ?_
  rintro e w1 ⟨_,rfl,hb1,rfl⟩
  obtain⟨x0,x1,x2,x3,hz1⟩:=FIN.out w1 hb1
  have HB1:=Avp (HB.out.le hb1)
  clear hb1 F
  go_wp2
  have s0:=Ca (v:=.slice none 0 0) x0
  have s1:=Ca (v:=.slice none 0 0) (Cs (b:=⟨w.heap.size+1,0,none⟩) (v:=.slice none 0 0) (by simp) x1)
  refine bodyPost_ret (v:=.tuple #[.agg #[.slice none 0 0,.slice none 0 0],.int .i64 2]) (by simp[results,Tryz.results343,go_sem,s0,s1]) rfl ?_
  exact⟨_,rfl,(HB1.out.setCell (p:=⟨w.heap.size+1,0,none⟩) (by simp) _).setCell (p:=⟨w.heap.size+1,1,none⟩) (by simp) _,_,rfl,Ec.nil_ _ _⟩
 | true=>
  rw[hc] at f
  have hv':Ax l=false:=by rw[hc] at hv;simpa using hv
  have f2:=fun w1 h1=>V8 C k ck l w1 h1
  rw[hv'] at f2
  have F:=Avp f;have F2:=Avp f2;clear f f2 hv hv' hc
  go_enter Tryz.func343,Tryz.ntmps343
  go_wp2_with fail
  refine F.out.mono ?_
  rintro e w1 ⟨_,rfl,hb1,rfl⟩
  have F3:=Avp (F2.out w1 (L0.out.mono hb1))
  have HB1:=Avp hb1
  clear hb1 F F2
  go_wp2_with fail
  refine F3.out.mono ?_
  rintro e w2 ⟨_,rfl,hb2,rfl⟩
  obtain⟨x0,x1,x2,x3,hz1⟩:=FIN.out w2 (HB1.out.le hb2)
  have HB2:=Avp (HB.out.le (HB1.out.le hb2))
  clear hb2 F3
  go_wp2
  have s0:=Ca (v:=.slice none 0 0) x0
  have s1:=Ca (v:=.slice none 0 0) (Cs (b:=⟨w.heap.size+1,0,none⟩) (v:=.slice none 0 0) (by simp) x1)
  refine bodyPost_ret (v:=.tuple #[.agg #[.slice none 0 0,.slice none 0 0],.int .i64 2]) (by simp[results,Tryz.results343,go_sem,s0,s1]) rfl ?_
  exact⟨_,rfl,(HB2.out.setCell (p:=⟨w.heap.size+1,0,none⟩) (by simp) _).setCell (p:=⟨w.heap.size+1,1,none⟩) (by simp) _,_,rfl,Ec.nil_ _ _⟩
theorem Avl (A B C:Option Addr) (n ca m cb k ck:Nat) (c:Ctx) (l:List Dot) (w:World) (h:Con w A n ca B m cb c) (hl:Bc w C k ck l) (hs:Small (n+(m+k)+1)) (hv:Dy c=true) (hvl:Ax l=true) :
  Calls Tryz.prog 343 #[.agg #[.slice A n ca,.slice B m cb],.slice C k ck] w (Ret w (Dw (Ec w.heap.size (Ae0 c l)) 0)):=by
 have hb0:Below w.heap.size w ((w.alloc (Ba A n ca B m cb)).alloc (Ba none 0 0 none 0 0)):=by go_grown
 have y0:((w.alloc (Ba A n ca B m cb)).alloc (Ba none 0 0 none 0 0)).cell? ⟨w.heap.size,0,none⟩=some (.slice A n ca):=by simp[go_sem]
 have y1:((w.alloc (Ba A n ca B m cb)).alloc (Ba none 0 0 none 0 0)).cell? ⟨w.heap.size,1,none⟩=some (.slice B m cb):=by simp[go_sem]
 have z0:((w.alloc (Ba A n ca B m cb)).alloc (Ba none 0 0 none 0 0)).cell? ⟨w.heap.size+1,0,none⟩=some (.slice none 0 0):=by simp[go_sem]
 have z1:((w.alloc (Ba A n ca B m cb)).alloc (Ba none 0 0 none 0 0)).cell? ⟨w.heap.size+1,1,none⟩=some (.slice none 0 0):=by simp[go_sem]
 have zf:∀ o,((w.alloc (Ba A n ca B m cb)).alloc (Ba none 0 0 none 0 0)).frozen? ⟨w.heap.size+1,o,none⟩=false:=fun o=>by simp[go_sem]
 have hsm:Small (m+k):=by have:=hs.out;unfold Small;omega
 have hsc:∀ (A' B':Option Addr) (n' ca' m' cb':Nat) (w':World),Con w' A' n' ca' B' m' cb' (c.1,Be c.2 l)->Small (n'+m'+1):=fun A' B' n' ca' m' cb' w' hc=>by
  have e1:=hc.v.len;have e2:=hc.k.len;have:=Cy c.2 l;have:=h.v.len;have:=h.k.len;have:=hl.len;have:=hs.out
  unfold Small;simp only at e1 e2;omega
 have h0:=h.mono hb0
 have l0:=hl.mono hb0
 have f:=Hc A B n ca m cb c _ h0
 have f2:=fun w1 h1=>V8 C k ck l w1 h1
 rw[hv] at f
 rw[hvl] at f2
 have hvu:Dy (c.1,Be c.2 l)=true:=Lt.2 (Aqt (Lt.1 hv) hvl)
 have H0:=Avp h0;have L0:=Avp l0;have HB:=Avp hb0;have Y0:=Avp y0;have Y1:=Avp y1;have Z0:=Avp z0;have Z1:=Avp z1;have ZF:=Avp zf;have HSC:=Avp hsc;have HVU:=Avp hvu
 have F:=Avp f;have F2:=Avp f2
 clear hb0 y0 y1 z0 z1 zf h hl h0 l0 f f2 hsc hvu hv hvl
 unfold Ae0
 rw[My]
 have hcall:∀ (w1:World) (v:Value),w.heap.size+2<=w1.heap.size->Aiu (c.1,Be c.2 l) w1 v->Calls Tryz.prog 347 #[v] w1 (Ret w1 (Dw (Ec (w.heap.size+2) (H5 (c.1,Be c.2 l))) 0)):=by
  rintro w1 v hw1 ⟨A',n',ca',B',m',cb',rfl,hc⟩
  exact(Zs A' B' n' ca' m' cb' _ w1 hc (HSC.out _ _ _ _ _ _ _ hc) HVU.out).mono fun _ _ hr=>hr.imp fun _ hp=>hp.imp fun _ ha=>ha.low hw1
 have HCALL:=Avp hcall;clear hcall
 go_enter Tryz.func343,Tryz.ntmps343
 go_wp2_with fail
 refine F.out.mono ?_
 rintro e w1 ⟨_,rfl,hb1,rfl⟩
 have F3:=Avp (F2.out w1 (L0.out.mono hb1))
 have HB1:=Avp hb1
 clear hb1 F F2
 go_wp2_with fail
 refine F3.out.mono ?_
 rintro e w2 ⟨_,rfl,hb2,rfl⟩
 have HB2:=Avp (HB1.out.le hb2)
 have hz2:w.heap.size+2<=w2.heap.size:=by have:=HB2.out.size;simp at this;omega
 have K0:=Avp (Ad HB2.out Y0.out);have K1:=Avp (Ad HB2.out Y1.out)
 have H2:=Avp (H0.out.mono HB2.out);have L2:=Avp (L0.out.mono HB2.out)
 clear hb2 F3 HB1
 go_wp2_with fail
 refine Bu 10 mixed (by kernel_rfl) (by kernel_rfl) ?_
 refine Al.step (Ob.fieldV Aa.free Has.oldIs (fun w1=>Qb)) ?_
 refine Al.step (Ob.loadV Aa.free (Has.new 0 0) (fun w1 hb1=>Yb hb1 K0.out)) ?_
 refine Al.step (Ob.fieldV Aa.free Has.oldIs (fun w1=>Abu)) ?_
 refine Al.step (Ob.loadV Aa.free (Has.new 2 0) (fun w1 hb1=>Agd hb1 K1.out)) ?_
 refine Al.step (Ob.move Aa.free Has.oldIs) ?_
 refine Al.step (Ob.call2V Aa.free Vj (Has.new 3 1) (Has.new 4 0) (fun w1 hb1=>(Aif B C m cb k ck c.2 l w1 (H2.out.k.mono hb1) (L2.out.mono hb1) hsm).mono fun _ _ hr=>hr.imp fun _ hx=>Dd.dots hx)) ?_
 refine Al.step (Ob.mkConD Aa.free (Has.new 1 4) (Has.new 5 0) (fun w1 hb1=>H2.out.v.mono hb1)) ?_
 refine Al.step (Ob.call1 Aa.free Sh (Has.new 6 0) (fun w1 v hb1 hv=>HCALL.out w1 v (Nat.le_trans hz2 hb1.size) hv)) ?_
 refine Al.step (Ob.extract (F:=Ec (w.heap.size+2) (H5 (c.1,Be c.2 l))) Aa.free (Has.new 7 0) (fun w1 v hb1 hv=>Avh (F:=Ec (w.heap.size+2) (H5 (c.1,Be c.2 l))) hv)) ?_
 refine Al.step (Ob.extract (F:=IsI 0) Aa.free (Has.new 7 1) (fun w1 v hb1 hv=>Auj (F:=Ec (w.heap.size+2) (H5 (c.1,Be c.2 l))) hv)) ?_
 simp only[Al,Ao,List.map,Bq,List.reverse_cons,List.reverse_nil,List.nil_append,List.cons_append,List.take_succ_cons,List.take_zero,List.drop_succ_cons,List.drop_zero]
 intro wE hE
 iterate 5 (rintro _ rfl)
 rintro _ _h5
 rintro _ _h6
 rintro _ _h7
 rintro _ ⟨A1,n1,c1,B1,m1,d1,rfl,r1,r2,hap⟩
 iterate 1 (rintro _ rfl)
 simp only[Act.put,List.setIfInBounds_toArray,List.set_cons_zero,List.set_cons_succ]
 have hEE:=HB2.out.le hE
 have x0:=Ad hEE Z0.out
 have x1:=Ad hEE Z1.out
 have yf0:wE.frozen? ⟨w.heap.size+1,0,none⟩=false:=(hEE.frozen (p:=⟨w.heap.size+1,0,none⟩) (by simp)).trans (ZF.out 0)
 have yf1:wE.frozen? ⟨w.heap.size+1,1,none⟩=false:=(hEE.frozen (p:=⟨w.heap.size+1,1,none⟩) (by simp)).trans (ZF.out 1)
 have hz:w.heap.size+1<wE.heap.size:=World.block_lt_of_cell? wE _ x0
 have s0:=Ca (v:=.slice A1 n1 c1) x0
 have s1:=Ca (v:=.slice B1 m1 d1) (Cs (b:=⟨w.heap.size+1,0,none⟩) (v:=.slice A1 n1 c1) (by simp) x1)
 have HE2:=Avp hEE;have R1:=Avp r1;have R2:=Avp r2;have HAP:=Avp hap
 clear hE hEE r1 r2 hap
 go_wp2
 refine bodyPost_ret (v:=.tuple #[.agg #[.slice A1 n1 c1,.slice B1 m1 d1],.int .i64 0]) (by simp[results,Tryz.results343,go_sem,s0,s1]) rfl ?_
 have ho1:∀ j,(Value.slice A1 n1 c1).ownBlock=some j->j≠w.heap.size+1:=fun j hj=>by have:=Row.own _ R1.out j hj;omega
 have ho2:∀ j,(Value.slice B1 m1 d1).ownBlock=some j->j≠w.heap.size+1:=fun j hj=>by have:=Row.own _ R2.out j hj;omega
 exact⟨_,rfl,((HB.out.le HE2.out).setCell (p:=⟨w.heap.size+1,0,none⟩) (by simp) _).setCell (p:=⟨w.heap.size+1,1,none⟩) (by simp) _,_,rfl,_,_,_,_,_,_,rfl,
  Row.low (Row.set_ (Row.set_ R1.out (p:=⟨w.heap.size+1,0,none⟩) ho1 _) (p:=⟨w.heap.size+1,1,none⟩) ho1 _) (by omega),Row.low (Row.set_ (Row.set_ R2.out (p:=⟨w.heap.size+1,0,none⟩) ho2 _) (p:=⟨w.heap.size+1,1,none⟩) ho2 _) (by omega),HAP.out⟩
theorem Ww (p:Dot->Bool):∀ (l:List Dot) (k:Nat),Bi p k l = -1->∀ d∈l,p d=false
 | [],_,_,d,hd=>nomatch hd
 | a::t,k,h,d,hd=>by
  rw[Bi] at h
  cases hp:p a with
  | true=>rw[hp,if_pos rfl] at h;omega
  | false=>
   rw[hp,if_neg (by simp)] at h
   rcases List.mem_cons.1 hd with rfl | hd
   ·exact hp
   ·exact Ww p t (k+1) h d hd
theorem Zw (p:Dot->Bool):∀ (l:List Dot) (k:Nat),Bi p k l≠-1->∃ m,Bi p k l=((k+m:Nat):Int)∧m<l.length∧(∀ d∈l.take m,p d=false)∧∃ d,l[m]?=some d∧p d=true
 | [],_,h=>absurd rfl h
 | a::t,k,h=>by
  rw[Bi] at h ⊢
  cases hp:p a with
  | true=>
   rw[if_pos rfl]
   exact⟨0,by simp,by simp,by simp,a,rfl,hp⟩
  | false=>
   rw[hp,if_neg (by simp)] at h
   obtain⟨m,h1,h2,h3,d,h4,h5⟩:=Zw p t (k+1) h
   rw[if_neg (by simp)]
   refine⟨m+1,by rw[h1];congr 1;omega,by simpa using h2,fun x hx=>?_,d,by simpa using h4,h5⟩
   rw[List.take_succ_cons] at hx
   rcases List.mem_cons.1 hx with rfl | hx
   ·exact hp
   ·exact h3 x hx
def M6 (p:Dot->Bool) (l:List Dot):List Dot:=l.filter fun d=>!p d
theorem Zt {p:Dot->Bool} {l:List Dot} (h:∀ d∈l,p d=false):M6 p l=l:=List.filter_eq_self.2 fun d hd=>by rw[h d hd];rfl
theorem Uq {p:Dot->Bool} {l:List Dot} {k:Nat} {d:Dot} (h:l[k]?=some d):M6 p (l.take (k+1))=M6 p (l.take k)++if p d then [] else [d]:=by
 unfold M6
 rw[Fq h,List.filter_append]
 cases hp:p d <;> simp[hp]
def Apw (B:Nat) (w:World) (g:Nat) (cb:Array Value) (l:List Dot) (p:Dot->Bool):Prop:=
 ∀ w',Below B w w'->∀ x y,(x,y)∈l->Calls Tryz.prog g (#[.agg #[.int .i64 x,.int .i64 y]]++cb) w' (Ret w' (IsB (p (x,y))))
def Aql (B:Nat) (v:Value) (w:World) (n:Nat) (p:Dot->Bool) (l:List Dot) (i j:Value) (wr:World):Prop:=
 ∃ (k m:Nat) (l':List Dot),i = .int .i64 k∧j = .int .i64 m∧k<m∧m<=n∧Below B w wr∧Row wr B v l'∧l'.length=l.length∧l'.drop m=l.drop m∧l'.take k=M6 p (l.take m)
theorem Zi (B g cap f:Nat) (cb:Array Value) (p:Dot->Bool) (l:List Dot) (w:World) (h:Row w B (.slice (some ⟨g,0,none⟩) l.length cap) l) (hs:Small l.length) (hBw:B<=w.heap.size)
  (ef:∀ args w,(callFunc f args).run Tryz.prog w = .ok (.enter f args) w) (hp:Apw B w f cb l p) :
  Calls Tryz.prog 329 #[.slice (some ⟨g,0,none⟩) l.length cap,.func (.func f) #[] cb] w (Vz B (M6 p l) w):=by
 have hd:=h.asDots
 have hcap:=hd.cap
 have hmx:=hd.big
 have hB:B<=g:=Row.from_ h ⟨g,0,none⟩ rfl
 have hgz:g<w.heap.size:=(Row.holds h).2
 have hs9:=hs.out
 have F:=Avp (N9 f cb p (some ⟨g,0,none⟩) l.length cap l w hd ef (fun w' hw=>hp w' (hw.mono hBw)))
 have HNONE:=Avp (Ww p l 0);have HSOME:=Avp (Zw p l 0)
 obtain⟨n,hn⟩:∃ n,n=l.length:=⟨_,rfl⟩
 rw[<-hn] at hs hcap hmx hd h hs9 F HSOME ⊢
 have HP:=Avp hp
 have HD:=Avp hd;have HN:=Avp hn;have H:=Avp h
 clear hd hn h hp
 generalize Bi p 0 l=ix at *
 go_enter Tryz.func329,Tryz.ntmps329
 go_wp2_with fail
 refine F.out.mono ?_
 rintro e w1 ⟨_,rfl,hb1,rfl⟩
 have HB1:=Avp (hb1.mono hBw)
 have hgz1:g<w1.heap.size:=by have:=hb1.size;omega
 have H1:=Avp (Row.mono H.out hb1)
 clear hb1 F
 by_cases hix:ix = -1
 ·have hall:=HNONE.out hix
  have HK:=Avp (Zt hall)
  subst hix
  clear hall HNONE HSOME
  go_wp2
  go_ret
  exact⟨_,rfl,HB1.out,by rw[HK.out];exact H1.out⟩
 ·obtain⟨i0,hi0,hi1,hi2,d0,hi3,hi4⟩:=HSOME.out hix
  rw[Nat.zero_add] at hi0
  subst hi0
  have hne:((i0:Int) == -1)=false:=by rw[beq_eq_false_iff_ne];omega
  have hk0:M6 p (l.take (i0+1))=l.take i0:=by rw[Uq hi3,hi4,Zt hi2];simp
  have HK0:=Avp hk0
  clear HNONE HSOME hi2 hi3 hi4 hk0 hix
  go_wp2
  go_loopw [5,6] (fun i j wr=>Aql B (.slice (some ⟨g,0,none⟩) n cap) w1 n p l i j wr) (fun _ j _=>n - (intOf j).toNat)
  case atStart=>exact⟨i0,i0+1,l,rfl,by simp,by omega,hi1,Below.refl _ _,H1.out,rfl,rfl,HK0.out.symm⟩
  case round=>
   clear H1 HK0 hne
   obtain⟨k,m,l',rfl,rfl,hkm,hmn,hb,hr,hl',hdr,htk⟩:=hrel
   have HB:=Avp hb;have HR:=Avp hr;have HL':=Avp hl';have HDR:=Avp hdr;have HTK:=Avp htk
   have hdots:=Avp hr.asDots
   clear hb hr hl' hdr htk
   by_cases hlm:m<n
   ·obtain⟨b,o,x,y,e,hbk,e1,d1,c1,c2⟩:=hdots.out.at_ (k:=m) hlm
    obtain⟨rfl,rfl⟩:g=b∧0=o:=by simpa using e
    rw[Xj HDR.out (Nat.le_refl _)] at e1
    simp only[Nat.zero_add] at c1 c2
    have hks:=Uq (p:=p) e1
    have hbw:Below wr.heap.size wr (wr.alloc (.cells #[.int .i64 x,.int .i64 y] 224)):=by go_grown
    have hbB:B<=wr.heap.size:=by have:=HB.out.size;have:=HB1.out.size;omega
    have fp:=HP.out _ ((HB1.out.trans HB.out).trans (hbw.mono hbB)) x y (List.mem_of_getElem? e1)
    have HKS:=Avp hks;have E1:=Avp e1;have HBW:=Avp hbw
    have C1:=Avp c1;have C2:=Avp c2
    clear hks e1 e d1 hbw
    cases hpp:p (x,y) with
    | true=>
     rw[hpp] at fp
     have FP:=Avp fp;have HPP:=Avp hpp
     clear fp hpp
     go_wp2_with fail
     refine FP.out.mono ?_
     rintro e w2 ⟨_,rfl,hb2,rfl⟩
     have HB2:=Avp (HBW.out.le hb2)
     clear hb2 FP c1 c2
     go_wp2
     go_roundw
     case rel=>exact⟨k,m+1,l',rfl,by simp,by omega,hlm,HB.out.trans (HB2.out.mono hbB),Row.mono HR.out HB2.out,HL'.out,by rw[<-List.drop_drop,HDR.out,List.drop_drop],by rw[HTK.out,HKS.out,HPP.out];simp⟩
     case measure=>simp[intOf];omega
    | false=>
     rw[hpp] at fp
     have FP:=Avp fp;have HPP:=Avp hpp
     clear fp hpp
     go_wp2_with fail
     refine FP.out.mono ?_
     rintro e w2 ⟨_,rfl,hb2,rfl⟩
     have hbr:=HBW.out.le hb2
     have t0:w2.cell? ⟨wr.heap.size,0,none⟩=some (.int .i64 x):=Ad hb2 (by simp[go_sem])
     have t1:w2.cell? ⟨wr.heap.size,1,none⟩=some (.int .i64 y):=Ad hb2 (by simp[go_sem])
     have hr2:=Row.mono HR.out hbr
     have hkl:k<l'.length:=by rw[HL'.out,<-HN.out];omega
     have hr2':Row w2 B (.slice (some ⟨g,0,none⟩) l'.length cap) l':=by rw[HL'.out,<-HN.out];exact hr2
     obtain⟨s1,s2⟩:=Fp l' k l'[k] (List.getElem?_eq_getElem hkl)
     have f1:=(World.ownsRow.cellAt hr2' (k*2) (by omega)).trans s1
     have f2:=(World.ownsRow.cellAt hr2' (k*2+1) (by omega)).trans s2
     have z1:=World.ownsRow.frozenAt hr2' (k*2)
     have z2:=World.ownsRow.frozenAt hr2' (k*2+1)
     have hp:=Row.put hr2 hkl x y
     have HPUT:=Avp hp;have HBR:=Avp hbr;have HKL:=Avp hkl
     have hkn:k<n:=by omega
     have hbz:=hb2.size
     clear hr2 hr2' hp hbr s1 s2 hb2 FP c1 c2
     go_wp2
     go_roundw
     case rel=>
      refine⟨k+1,m+1,l'.set k (x,y),by simp,by simp,by omega,hlm,(HB.out.trans (HBR.out.mono hbB)).trans HPUT.out.2,HPUT.out.1,by rw[List.length_set];exact HL'.out,?_,?_⟩
      ·rw[List.drop_set_of_lt (by omega),<-List.drop_drop,HDR.out,List.drop_drop]
      ·have hset:(l'.set k (x,y))[k]?=some (x,y):=by rw[List.getElem?_set_self HKL.out]
       rw[Fq hset,List.take_set_of_le (Nat.le_refl _),HTK.out,HKS.out,HPP.out]
       rfl
     case measure=>simp[intOf];omega
   ·have hfin:l'.take k=M6 p l:=by
     have h9:l.take m=l:=List.take_of_length_le (by rw[<-HN.out];omega)
     have:=HTK.out
     rw[h9] at this
     exact this
    have hR':Row wr B (.slice (some ⟨g,0,none⟩) l'.length cap) l':=by rw[HL'.out,<-HN.out];exact HR.out
    have hsl2:=fun w=>D6 (w:=w) (A:=some ⟨g,0,none⟩) (n:=n) (c:=cap) (k:=k) (by omega) hcap
    have hsl3:=fun w=>Lj (w:=w) (A:=some ⟨g,0,none⟩) (n:=n) (c:=cap) (k:=k) (by omega)
    have hcl:=fun ty=>Li Tryz.underlying135 hR' (k:=k) (by rw[HL'.out,<-HN.out];omega) ty
    rw[HL'.out,<-HN.out] at hcl
    obtain⟨w',hc1,hc2,hc3⟩:=hcl 0
    have hc4:∀ ty,(Builtin.clear_ #[135] ty #[.slice (G4 (some ⟨g,0,none⟩) cap k) (n - k) (cap - k)]).run Tryz.prog wr = .ok (.tuple #[]) w':=fun ty=>hc1
    have R2:=Avp hc2;have R3:=Avp hc3;have FIN:=Avp hfin
    generalize G4 (some ⟨g,0,none⟩) cap k=Z at *
    clear hcl hc1 hc2 hc3 hR' hfin
    go_wp2
    go_ret
    exact⟨_,rfl,(HB1.out.trans HB.out).trans R3.out,by rw[<-FIN.out];exact R2.out⟩
theorem Ana (B f:Nat) (cb:Array Value) (p:Dot->Bool) (v:Value) (l:List Dot) (w:World) (h:Row w B v l) (hs:Small l.length) (hBw:B<=w.heap.size)
  (ef:∀ args w,(callFunc f args).run Tryz.prog w = .ok (.enter f args) w) (hp:Apw B w f cb l p) :
  Calls Tryz.prog 329 #[v,.func (.func f) #[] cb] w (Vz B (M6 p l) w):=by
 rcases h.2 with⟨rfl,h0⟩ | ⟨g,cap,cur,rfl,_⟩
 ·have hl:l=[]:=List.eq_nil_of_length_eq_zero h0
  subst hl
  have F:=Avp (N9 f cb p none 0 0 [] w Bc.nil_ ef (fun w' hw=>hp w' (hw.mono hBw)))
  have e:Bi p 0 [] = -1:=rfl
  rw[e] at F
  clear hp h e
  go_enter Tryz.func329,Tryz.ntmps329
  go_wp2_with fail
  refine F.out.mono ?_
  rintro e w1 ⟨_,rfl,hb1,rfl⟩
  go_wp2
  go_ret
  exact⟨_,rfl,hb1.mono hBw,Row.nil_ _ _⟩
 ·exact Zi B g cap f cb p l w h hs hBw ef hp
theorem Aa5:∀ args w,(callFunc 331 args).run Tryz.prog w = .ok (.enter 331 args) w:=enters_of Tryz.func331 (by kernel_rfl) rfl
theorem Aqy (x y:Int) (N:Nat) (A B:Option Addr) (n ca m cb:Nat) (c:Ctx) (w:World) (h:Con w A n ca B m cb c) (h0:w.cell? ⟨N,0,none⟩=some (.slice A n ca)) (h1:w.cell? ⟨N,1,none⟩=some (.slice B m cb)) :
  Calls Tryz.prog 331 #[.agg #[.int .i64 x,.int .i64 y],.pointer (some ⟨N,0,none⟩)] w (Ret w (IsB (Kf c (x,y)))):=by
 have hb:Below w.heap.size w (w.alloc (.cells #[.int .i64 x,.int .i64 y] 224)):=by go_grown
 have F:=Avp (Ao8 x y A B n ca m cb c _ (h.mono hb))
 have k0:=Ad hb h0;have k1:=Ad hb h1
 have HB:=Avp hb
 clear hb h h0 h1
 go_enter Tryz.func331,Tryz.ntmps331
 go_wp2_with fail
 refine F.out.mono ?_
 rintro e w1 ⟨_,rfl,hb1,rfl⟩
 go_wp2
 go_ret
 exact Ay rfl (HB.out.le hb1)
theorem Ak6 (A B C:Option Addr) (n ca m cb k ck:Nat) (c:Ctx) (l:List Dot) (w:World) (h:Con w A n ca B m cb c) (hl:Bc w C k ck l) (hs:Small k) :
  Calls Tryz.prog 259 #[.agg #[.slice A n ca,.slice B m cb],.slice C k ck] w (Ret w (Dd w.heap.size (Qz c l))):=by
 have hb0:Below w.heap.size w (w.alloc (Ba A n ca B m cb)):=(Below.refl _ _).alloc (Nat.le_refl _) _
 have y0:(w.alloc (Ba A n ca B m cb)).cell? ⟨w.heap.size,0,none⟩=some (.slice A n ca):=by simp[go_sem]
 have y1:(w.alloc (Ba A n ca B m cb)).cell? ⟨w.heap.size,1,none⟩=some (.slice B m cb):=by simp[go_sem]
 have h0:=h.mono hb0
 have f:=Am0 C k ck l _ (hl.mono hb0) hs
 have hl9:(Be l []).length<=k:=by have:=Cy l [];have:=hl.len;simp at *;omega
 have F:=Avp f;have HB:=Avp hb0;have Y0:=Avp y0;have Y1:=Avp y1;have H0:=Avp h0;have HL9:=Avp hl9
 clear f hb0 y0 y1 h0 h hl hl9
 rw[<-Zz]
 go_enter Tryz.func259,Tryz.ntmps259
 go_wp2_with fail
 refine F.out.mono ?_
 rintro e w1 ⟨v,rfl,hb1,hr1⟩
 have fd:=Ana (w.alloc (Ba A n ca B m cb)).heap.size 331 #[.pointer (some ⟨w.heap.size,0,none⟩)] (Kf c) v (Be l []) w1 hr1 (by have:=hs.out;have:=HL9.out;unfold Small;omega) hb1.size Aa5
  (fun w' hw' x y _=>Aqy x y w.heap.size A B n ca m cb c w' (H0.out.mono (hb1.trans hw')) (Ad (hb1.trans hw') Y0.out) (Ad (hb1.trans hw') Y1.out))
 have FD:=Avp fd;have HB1:=Avp hb1
 clear fd F hb1 hr1
 go_wp2_with fail
 refine FD.out.mono ?_
 rintro e w2 ⟨v2,rfl,hb2,hr2⟩
 have HB2:=Avp (HB1.out.trans hb2);have HR2:=Avp hr2
 clear hb2 hr2 FD
 go_wp2
 go_ret
 exact⟨_,rfl,HB.out.le HB2.out,Row.low HR2.out (by have:=HB.out.size;omega)⟩
structure Ar where
 ctx:Ctx
 items:List As
 deriving DecidableEq
structure CPl where
 A:Option Addr
 n:Nat
 ca:Nat
 B:Option Addr
 m:Nat
 cb:Nat
 C:Option Addr
 k:Nat
 cc:Nat
abbrev Alm (p:CPl):Value:=.agg #[.slice p.A p.n p.ca,.slice p.B p.m p.cb]
abbrev Cd (p:CPl):Value:=.agg #[.slice p.A p.n p.ca,.slice p.B p.m p.cb,.slice p.C p.k p.cc]
abbrev Aw (p:CPl):Array Value:=#[.slice p.A p.n p.ca,.slice p.B p.m p.cb,.slice p.C p.k p.cc]
structure Bg (D:Nat->Prop) (w:World) (p:CPl) (c:Ar):Prop where
 vec:Bc w p.A p.n p.ca c.ctx.1
 cloud:Bc w p.B p.m p.cb c.ctx.2
 its:Fi D w p.C p.k p.cc c.items
 iA:InD D p.A
 iB:InD D p.B
theorem Bg.mono {D D':Nat->Prop} {w w':World} {p:CPl} {c:Ar} (h:Bg D w p c) (hb:Below w.heap.size w w') (hd:∀ b,D b->D' b):Bg D' w' p c:=⟨h.vec.mono hb,h.cloud.mono hb,h.its.mono hb hd,h.iA.mono hd,h.iB.mono hd⟩
theorem Bg.con {D:Nat->Prop} {w:World} {p:CPl} {c:Ar} (h:Bg D w p c):Con w p.A p.n p.ca p.B p.m p.cb c.ctx:=⟨h.vec,h.cloud⟩
def Ch (c:Ar):Nat:=c.ctx.1.length+c.ctx.2.length+c.items.length+(Cn c.items).length
def Bd (c:Ar):Prop:=Ch c<=200000
theorem Bd.all {c:Ar} (h:Bd c):Small (Cn c.items).length:=by unfold Bd Ch at h;unfold Small;omega
theorem Bd.its {c:Ar} (h:Bd c):Small c.items.length:=by unfold Bd Ch at h;unfold Small;omega
theorem Bd.mark {c:Ar} (h:Bd c):∀ x∈c.items,Small x.2.length:=fun x hx=>by have:=J7 hx;have:=h.all.out;unfold Small;omega
def Bo (c:Ar):Bool:=Ic c.ctx&&(Hw c.items&&decide ((Qz c.ctx (Gf c.items)).length=0))
theorem Aaa {c:Ar} {x y z:Bool} (h1:Ic c.ctx=x) (h2:Hw c.items=y) (h3:decide ((Qz c.ctx (Gf c.items)).length=0)=z):Bo c=(x&&(y&&z)):=by unfold Bo;rw[h1,h2,h3]
section
variable {ops:List Oper} {Fs:List VT} {w0:World} {a0:Act} {i:Nat} {d:Option Tmp} {ty:TypeId} {pos:String} {after:Array Edge} {g:Option (Nat×Bool)}
theorem Ob.lenRow {x:Operand} {B:Nat} {l:List Dot} (hw:Aa ops Fs w0 a0 i ⟨d,.call ⟨.builtin .len,#[x],#[135]⟩,ty,pos,after,g⟩) (hx:Has ops Fs w0 a0 i ⟨d,.call ⟨.builtin .len,#[x],#[135]⟩,ty,pos,after,g⟩ x (Dd B l)) (_:True) :
  Ob Tryz.prog ops Fs w0 a0 i ⟨d,.call ⟨.builtin .len,#[x],#[135]⟩,ty,pos,after,g⟩ (Is (.int .i64 ((l.length:Nat):Int))):=
 Ob.stay hw fun a w cx=>by
  obtain⟨A,c,e,_⟩:=Row.dots (hx a w cx)
  refine⟨.int .i64 ((l.length:Nat):Int),?_,rfl⟩
  generalize a.eval=ρ at e
  simp[execOp,resolve,invoke,builtin,e,go_sem]
end
theorem E5 {w0 w:World} {N:Nat} {p:CPl} (hb:Below w0.heap.size w0 w) (h0:w0.cell? ⟨N,0,none⟩=some (.slice p.A p.n p.ca)) (h1:w0.cell? ⟨N,1,none⟩=some (.slice p.B p.m p.cb)):(Instr.loadAt 138 (.pointer (some ⟨N,0,none⟩))).run Tryz.prog w = .ok (Alm p) w:=by
 have c1:=Ad hb h0
 have c2:=Ad hb h1
 simp[go_sem,c1,c2]
theorem Kn {w0 w:World} {N:Nat} {p:CPl} (hb:Below w0.heap.size w0 w) (h0:w0.cell? ⟨N,2,none⟩=some (.slice p.C p.k p.cc)):(Instr.loadAt 139 (.pointer (some ⟨N,2,none⟩))).run Tryz.prog w = .ok (.slice p.C p.k p.cc) w:=by
 have c1:=Ad hb h0
 simp[go_sem,c1]
theorem Gj {w:World} {N:Nat}:(Instr.fieldAt 141 (.pointer (some ⟨N,0,none⟩)) 0).run Tryz.prog w = .ok (.pointer (some ⟨N,0,none⟩)) w:=by simp[go_sem]
theorem M1 {w:World} {N:Nat}:(Instr.fieldAt 141 (.pointer (some ⟨N,0,none⟩)) 1).run Tryz.prog w = .ok (.pointer (some ⟨N,2,none⟩)) w:=by simp[go_sem]
theorem N0:Enters Tryz.prog 257:=enters_of Tryz.func257 (by kernel_rfl) rfl
theorem Uu:Enters Tryz.prog 258:=enters_of Tryz.func258 (by kernel_rfl) rfl
theorem Age:Enters Tryz.prog 260:=enters_of Tryz.func260 (by kernel_rfl) rfl
theorem Aet:Enters Tryz.prog 259:=enters_of Tryz.func259 (by kernel_rfl) rfl
theorem Nx (w:World) (p:CPl):Below w.heap.size w (w.alloc (.cells (Aw p) 141))∧(w.alloc (.cells (Aw p) 141)).cell? ⟨w.heap.size,0,none⟩=some (.slice p.A p.n p.ca)∧(w.alloc (.cells (Aw p) 141)).cell? ⟨w.heap.size,1,none⟩=some (.slice p.B p.m p.cb)∧(w.alloc (.cells (Aw p) 141)).cell? ⟨w.heap.size,2,none⟩=some (.slice p.C p.k p.cc):=
 ⟨by go_grown,by simp[go_sem],by simp[go_sem],by simp[go_sem]⟩
theorem Yu {l:List As} (h:Small (Cn l).length):Small (Gf l).length:=by
 have:=Cy (Cn l) []
 unfold Gf Small at *
 simp at this
 omega
theorem Ag3 {D:Nat->Prop} {w:World} {p:CPl} {c:Ar} (h:Bg D w p c) {B:Nat} {u v:Value} (hs:Small (Cn c.items).length) (hu:Is (Alm p) w u) (hv:Dd B (Gf c.items) w v):Calls Tryz.prog 259 #[u,v] w (Ret w (Dd w.heap.size (Qz c.ctx (Gf c.items)))):=by
 have hu:u=_:=hu
 subst hu
 obtain⟨C,ck,rfl,hd⟩:=Row.dots hv
 exact(Ak6 p.A p.B C p.n p.ca p.m p.cb _ ck c.ctx _ w h.con hd (Yu hs))
theorem Adu {f:FuncId} {args:Array Value} {w:World} {l:List Dot} (h:Calls Tryz.prog f args w (Ret w (Dd w.heap.size l))):Calls Tryz.prog f args w (Ret w (Dd 0 l)):=h.mono fun _ _ ⟨v,e,hb,hr⟩=>⟨v,e,hb,Row.low hr (Nat.zero_le _)⟩
theorem Eo {D:Nat->Prop} {w:World} {p:CPl} {c:Ar} (h:Bg D w p c) (hn:Bk w) (hs:Bd c):Calls Tryz.prog 190 #[Cd p] w (Ret w (IsB (Bo c))):=by
 obtain⟨x,h1⟩:∃ x,Ic c.ctx=x:=⟨_,rfl⟩
 obtain⟨y,h2⟩:∃ x,Hw c.items=x:=⟨_,rfl⟩
 obtain⟨z,h3⟩:∃ x,decide ((Qz c.ctx (Gf c.items)).length=0)=x:=⟨_,rfl⟩
 have EV:=Avp (Aaa h1 h2 h3)
 obtain⟨hx,y0,y1,y2⟩:=Nx w p
 obtain⟨N,hN⟩:∃ N,N=w.heap.size:=⟨_,rfl⟩
 rw[<-hN] at y0 y1 y2
 have HB:=Avp hx;have Y0:=Avp y0;have Y1:=Avp y1;have Y2:=Avp y2;have HS:=Avp hs
 have C1:=Avp (fun w1 (hb1:Below (w.alloc (.cells (Aw p) 141)).heap.size (w.alloc (.cells (Aw p) 141)) w1)=>by have:=Q8 p.A p.B p.n p.ca p.m p.cb c.ctx w1 (h.mono (hx.le hb1) fun _ x=>x).con;rw[h1] at this;exact this)
 have C2:=Avp (fun w1 (hb1:Below (w.alloc (.cells (Aw p) 141)).heap.size (w.alloc (.cells (Aw p) 141)) w1)=>by have:=Ap0 (h.its.mono (hx.le hb1) fun _ x=>x) (hn.mono (hx.le hb1)) hs.all;rw[h2] at this;exact this)
 have C3:=Avp (fun w1 (hb1:Below (w.alloc (.cells (Aw p) 141)).heap.size (w.alloc (.cells (Aw p) 141)) w1)=>Adk (h.its.mono (hx.le hb1) fun _ x=>x) hs.all)
 have H:=Avp (h.mono hx fun _ x=>x)
 rw[EV.out]
 clear hx y0 y1 y2 h hn hs h1 h2 EV
 cases x with
 | false=>
  go_enter Tryz.func190,Tryz.ntmps190
  go_wp2_with fail
  rw[<-hN]
  clear hN
  refine Am mixed (by kernel_rfl) ?_
  refine Ab.step (Ob.fieldV Aa.free Has.oldIs (fun w1=>Gj)) ?_
  refine Ab.step (Ob.loadV Aa.free (Has.new 0 0) (fun w1 hb1=>E5 hb1 Y0.out Y1.out)) ?_
  refine Ab.step (Ob.call1V Aa.free N0 (Has.new 1 0) (fun w1 hb1=>C1.out w1 hb1)) ?_
  refine Ab.step (Ob.move Aa.free (Has.new 2 0)) ?_
  refine Ab.step (Ob.off 3 0) ?_
  refine Ab.step (Ob.off 3 1) ?_
  refine Ab.step (Ob.off 3 2) ?_
  refine Ab.step (Ob.pickF Aa.free (Has.new 3 3) (Has.cst _)) ?_
  refine Ab.step (Ob.move Aa.free (Has.new 7 0)) ?_
  refine Ab.step (Ob.off 8 0) ?_
  refine Ab.step (Ob.off 8 1) ?_
  refine Ab.step (Ob.off 8 2) ?_
  refine Ab.step (Ob.off 8 3) ?_
  refine Ab.step (Ob.off 8 4) ?_
  refine Ab.step (Ob.off 8 5) ?_
  refine Ab.step (Ob.off 8 6) ?_
  refine Ab.step (Ob.off 8 7) ?_
  refine Ab.step (Ob.pickF Aa.free (Has.new 8 8) (Has.cst _)) ?_
  refine Ab.step (Ob.assign Aa.free (Has.new 17 0)) ?_
  simp only[Ab,Ao,List.map,Bq,List.reverse_cons,List.reverse_nil,List.nil_append,List.cons_append]
  intro wE hE
  iterate 19 (rintro _ rfl)
  simp only[Act.put,List.setIfInBounds_toArray,List.set_cons_zero,List.set_cons_succ]
  replace HB:=Avp (HB.out.le hE)
  clear hE
  go_wp2
  go_ret
  exact Ay rfl HB.out
 | true=>
  cases y with
  | false=>
   go_enter Tryz.func190,Tryz.ntmps190
   go_wp2_with fail
   rw[<-hN]
   clear hN
   refine Am mixed (by kernel_rfl) ?_
   refine Ab.step (Ob.fieldV Aa.free Has.oldIs (fun w1=>Gj)) ?_
   refine Ab.step (Ob.loadV Aa.free (Has.new 0 0) (fun w1 hb1=>E5 hb1 Y0.out Y1.out)) ?_
   refine Ab.step (Ob.call1V Aa.free N0 (Has.new 1 0) (fun w1 hb1=>C1.out w1 hb1)) ?_
   refine Ab.step (Ob.move Aa.free (Has.new 2 0)) ?_
   refine Ab.step (Ob.fieldV (Aa.on 3 0) Has.oldIs (fun w1=>M1)) ?_
   refine Ab.step (Ob.loadV (Aa.on 3 1) (Has.new 4 0) (fun w1 hb1=>Kn hb1 Y2.out)) ?_
   refine Ab.step (Ob.call1V (Aa.on 3 2) Uu (Has.new 5 0) (fun w1 hb1=>C2.out w1 hb1)) ?_
   refine Ab.step (Ob.pickT Aa.free (Has.new 3 3) (Has.new 6 0)) ?_
   refine Ab.step (Ob.move Aa.free (Has.new 7 0)) ?_
   refine Ab.step (Ob.off 8 0) ?_
   refine Ab.step (Ob.off 8 1) ?_
   refine Ab.step (Ob.off 8 2) ?_
   refine Ab.step (Ob.off 8 3) ?_
   refine Ab.step (Ob.off 8 4) ?_
   refine Ab.step (Ob.off 8 5) ?_
   refine Ab.step (Ob.off 8 6) ?_
   refine Ab.step (Ob.off 8 7) ?_
   refine Ab.step (Ob.pickF Aa.free (Has.new 8 8) (Has.cst _)) ?_
   refine Ab.step (Ob.assign Aa.free (Has.new 17 0)) ?_
   simp only[Ab,Ao,List.map,Bq,List.reverse_cons,List.reverse_nil,List.nil_append,List.cons_append]
   intro wE hE
   iterate 19 (rintro _ rfl)
   simp only[Act.put,List.setIfInBounds_toArray,List.set_cons_zero,List.set_cons_succ]
   replace HB:=Avp (HB.out.le hE)
   clear hE
   go_wp2
   go_ret
   exact Ay rfl HB.out
  | true=>
   have hz:(((Qz c.ctx (Gf c.items)).length:Int)==0)=z:=by rw[<-h3,Bool.eq_iff_iff];simp
   have HZ:=Avp hz
   clear h3 hz
   go_enter Tryz.func190,Tryz.ntmps190
   go_wp2_with fail
   rw[<-hN]
   clear hN
   refine Am mixed (by kernel_rfl) ?_
   refine Ab.step (Ob.fieldV Aa.free Has.oldIs (fun w1=>Gj)) ?_
   refine Ab.step (Ob.loadV Aa.free (Has.new 0 0) (fun w1 hb1=>E5 hb1 Y0.out Y1.out)) ?_
   refine Ab.step (Ob.call1V Aa.free N0 (Has.new 1 0) (fun w1 hb1=>C1.out w1 hb1)) ?_
   refine Ab.step (Ob.move Aa.free (Has.new 2 0)) ?_
   refine Ab.step (Ob.fieldV (Aa.on 3 0) Has.oldIs (fun w1=>M1)) ?_
   refine Ab.step (Ob.loadV (Aa.on 3 1) (Has.new 4 0) (fun w1 hb1=>Kn hb1 Y2.out)) ?_
   refine Ab.step (Ob.call1V (Aa.on 3 2) Uu (Has.new 5 0) (fun w1 hb1=>C2.out w1 hb1)) ?_
   refine Ab.step (Ob.pickT Aa.free (Has.new 3 3) (Has.new 6 0)) ?_
   refine Ab.step (Ob.move Aa.free (Has.new 7 0)) ?_
   refine Ab.step (Ob.fieldV (Aa.on 8 0) Has.oldIs (fun w1=>Gj)) ?_
   refine Ab.step (Ob.loadV (Aa.on 8 1) (Has.new 9 0) (fun w1 hb1=>E5 hb1 Y0.out Y1.out)) ?_
   refine Ab.step (Ob.fieldV (Aa.on 8 2) Has.oldIs (fun w1=>M1)) ?_
   refine Ab.step (Ob.loadV (Aa.on 8 3) (Has.new 11 0) (fun w1 hb1=>Kn hb1 Y2.out)) ?_
   refine Ab.step (Ob.call1V (Aa.on 8 4) Age (Has.new 12 0) (fun w1 hb1=>Adu (C3.out w1 hb1))) ?_
   refine Ab.step (Ob.call2 (Aa.on 8 5) Aet (Has.new 10 3) (Has.new 13 0) (fun w1 u v hb1 hu hv=>Adu (Ag3 (H.out.mono hb1 fun _ x=>x) HS.out.all hu hv))) ?_
   refine Ab.step (Ob.lenRow (Aa.on 8 6) (Has.new 14 0) trivial) ?_
   refine Ab.step (Ob.binV (Aa.on 8 7) (Has.new 15 0) (Has.cst _) (fun w1=>Gc z HZ.out)) ?_
   refine Ab.step (Ob.pickT Aa.free (Has.new 8 8) (Has.new 16 0)) ?_
   refine Ab.step (Ob.assign Aa.free (Has.new 17 0)) ?_
   simp only[Ab,Ao,List.map,Bq,List.reverse_cons,List.reverse_nil,List.nil_append,List.cons_append]
   intro wE hE
   iterate 13 (rintro _ rfl)
   rintro _ _h13
   rintro _ _h14
   iterate 4 (rintro _ rfl)
   simp only[Act.put,List.setIfInBounds_toArray,List.set_cons_zero,List.set_cons_succ]
   replace HB:=Avp (HB.out.le hE)
   clear hE
   go_wp2
   go_ret
   exact Ay rfl HB.out
def Ed (B:Nat) (c:Ar) (w:World) (v:Value):Prop:=∃ p:CPl,v=Cd p∧Bg (fun b=>B<=b) w p c
instance (B:Nat) (c:Ar):Grows (Ed B c):=⟨fun hb ⟨p,e,h⟩=>⟨p,e,h.mono hb fun _ x=>x⟩⟩
instance (B:Nat) (l:List As):Grows (Wz B l):=⟨fun hb ⟨A,n,c,e,h⟩=>⟨A,n,c,e,h.mono hb fun _ x=>x⟩⟩
def Aco (B:Nat) (c:Ctx) (w:World) (v:Value):Prop:=∃ A n ca A' m cb,v = .agg #[.slice A n ca,.slice A' m cb]∧Bc w A n ca c.1∧Bc w A' m cb c.2∧InD (fun b=>B<=b) A∧InD (fun b=>B<=b) A'
instance (B:Nat) (c:Ctx):Grows (Aco B c):=⟨fun hb ⟨A,n,ca,A',m,cb,e,h1,h2,h3,h4⟩=>⟨A,n,ca,A',m,cb,e,h1.mono hb,h2.mono hb,h3,h4⟩⟩
theorem Hg {w:World} {B:Nat} {v:Value} {l:List Dot} (h:Row w B v l):∃ A c,v = .slice A l.length c∧Bc w A l.length c l∧InD (fun b=>B<=b) A:=by
 obtain⟨A,c,rfl,hd⟩:=Row.dots h
 exact⟨A,c,rfl,hd,fun a ea=>(World.ownsRow.lt h a.block (by rw[ea];rfl)).1⟩
section
variable {P:Program} {ops:List Oper} {Fs:List VT} {w0:World} {a0:Act} {i:Nat} {d:Option Tmp} {ty:TypeId} {pos:String} {after:Array Edge} {g:Option (Nat×Bool)}
theorem Ob.build2 {x y:Operand} {t:TypeId} {i1 i2:Nat} {G H F:VT} (hw:Aa ops Fs w0 a0 i ⟨d,.build t #[(i1,x),(i2,y)],ty,pos,after,g⟩) (hx:Has ops Fs w0 a0 i ⟨d,.build t #[(i1,x),(i2,y)],ty,pos,after,g⟩ x G) (hy:Has ops Fs w0 a0 i ⟨d,.build t #[(i1,x),(i2,y)],ty,pos,after,g⟩ y H)
  (h:∀ w u v,Below w0.heap.size w0 w->G w u->H w v->∃ r,(Instr.build t #[(i1,u),(i2,v)]).run P w = .ok r w∧F w r):Ob P ops Fs w0 a0 i ⟨d,.build t #[(i1,x),(i2,y)],ty,pos,after,g⟩ F:=
 Ob.stay hw fun a w cx=>by
  obtain⟨r,h1,h2⟩:=h w _ _ cx.le (hx a w cx) (hy a w cx)
  exact⟨r,by simp[execOp,h1],h2⟩
end
theorem Ad6 {B:Nat} {c:Ctx} {w:World} {u v:Value} (hu:Dd B c.1 w u) (hv:Dd B c.2 w v):∃ r,(Instr.build 138 #[(0,u),(1,v)]).run Tryz.prog w = .ok r w∧Aco B c w r:=by
 obtain⟨A,ca,rfl,h1,i1⟩:=Hg hu
 obtain⟨A',cb,rfl,h2,i2⟩:=Hg hv
 exact⟨.agg #[.slice A c.1.length ca,.slice A' c.2.length cb],by simp[go_sem],_,_,_,_,_,_,rfl,h1,h2,i1,i2⟩
theorem Abq {B:Nat} {c:Ar} {w:World} {u v:Value} (hu:Aco B c.ctx w u) (hv:Wz B c.items w v):∃ r,(Instr.build 141 #[(0,u),(1,v)]).run Tryz.prog w = .ok r w∧Ed B c w r:=by
 obtain⟨A,n,ca,A',m,cb,rfl,h1,h2,i1,i2⟩:=hu
 obtain⟨C,k,cc,rfl,h3⟩:=hv
 exact⟨.agg #[.slice A n ca,.slice A' m cb,.slice C k cc],by simp[go_sem],⟨A,n,ca,A',m,cb,C,k,cc⟩,rfl,h1,h2,h3,i1,i2⟩
theorem Af0 {w:World} {N:Nat}:(Instr.fieldAt 138 (.pointer (some ⟨N,0,none⟩)) 0).run Tryz.prog w = .ok (.pointer (some ⟨N,0,none⟩)) w:=by simp[go_sem]
theorem Ad3 {w:World} {N:Nat}:(Instr.fieldAt 138 (.pointer (some ⟨N,0,none⟩)) 1).run Tryz.prog w = .ok (.pointer (some ⟨N,1,none⟩)) w:=by simp[go_sem]
theorem Aht {w0 w:World} {N o n c:Nat} {A:Option Addr} (hb:Below w0.heap.size w0 w) (h0:w0.cell? ⟨N,o,none⟩=some (.slice A n c)):(Instr.loadAt 136 (.pointer (some ⟨N,o,none⟩))).run Tryz.prog w = .ok (.slice A n c) w:=by
 have c1:=Ad hb h0
 simp[go_sem,c1]
theorem Akc {w0 w:World} {N o n c:Nat} {A:Option Addr} (hb:Below w0.heap.size w0 w) (h0:w0.cell? ⟨N,o,none⟩=some (.slice A n c)):(Instr.loadAt 135 (.pointer (some ⟨N,o,none⟩))).run Tryz.prog w = .ok (.slice A n c) w:=by
 have c1:=Ad hb h0
 simp[go_sem,c1]
theorem Ab4:Enters Tryz.prog 313:=enters_of Tryz.func313 (by kernel_rfl) rfl
theorem Aao:Enters Tryz.prog 314:=enters_of Tryz.func314 (by kernel_rfl) rfl
theorem Aa4:Enters Tryz.prog 262:=enters_of Tryz.func262 (by kernel_rfl) rfl
theorem Ace {f:FuncId} {args:Array Value} {w:World} {l:List Dot} {B:Nat} (hB:B<=w.heap.size) (h:Calls Tryz.prog f args w (Ret w (Dd w.heap.size l))):Calls Tryz.prog f args w (Ret w (Dd B l)):=h.mono fun _ _ ⟨v,e,hb,hr⟩=>⟨v,e,hb,Row.low hr hB⟩
theorem Aoh {f:FuncId} {args:Array Value} {w:World} {l:List As} {B:Nat} (hB:B<=w.heap.size) (h:Calls Tryz.prog f args w (Ret w (Wz w.heap.size l))):Calls Tryz.prog f args w (Ret w (Wz B l)):=h.mono fun _ _ ⟨v,e,hb,A,n,c,hr,hi⟩=>⟨v,e,hb,A,n,c,hr,hi.mono (Below.refl _ _) fun b hx=>Nat.le_trans hB hx⟩
theorem Bc.updD {D:Nat->Prop} {w w':World} {g:Nat} {A:Option Addr} {n c:Nat} {l:List Dot} (h:Bc w A n c l) (hi:InD D A) (hu:Upd g w w') (hg:¬D g):Bc w' A n c l:=
 ⟨h.len,h.cap,h.max,h.nil,fun i d hid=>by
  obtain⟨b,o,rfl,hlt,h1,h2⟩:=h.cell i d hid
  have hb:b≠g:=fun e=>hg (e ▸ hi ⟨b,o,none⟩ rfl)
  exact⟨b,o,rfl,by rw[hu.size];exact hlt,(World.cell?_of_block (a:=⟨b,_,none⟩) (hu.block b hb)).trans h1,(World.cell?_of_block (a:=⟨b,_,none⟩) (hu.block b hb)).trans h2⟩⟩
theorem Fi.upd {D:Nat->Prop} {w w':World} {g:Nat} {A:Option Addr} {n c:Nat} {l:List As} (h:Fi D w A n c l) (hu:Upd g w w') (hg:¬D g):Fi D w' A n c l:=
 let ⟨es,e,h1,h2,h3⟩:=h;⟨es,e,h1.wrote hu.wrote fun a ea hb=>hg (hb ▸ h2 a ea),h2,fun x hx=>(h3 x hx).upd hu hg⟩
theorem Bg.upd {D:Nat->Prop} {w w':World} {p:CPl} {c:Ar} {g:Nat} (h:Bg D w p c) (hu:Upd g w w') (hg:¬D g):Bg D w' p c:=⟨h.vec.updD h.iA hu hg,h.cloud.updD h.iB hu hg,h.its.upd hu hg,h.iA,h.iB⟩
abbrev cartZ:Array Value:=#[.slice none 0 0,.slice none 0 0,.slice none 0 0]
theorem Ada {D:Nat->Prop} {w:World} {p:CPl} {c:Ar} (h:Bg D w p c) (hs:Bd c):Calls Tryz.prog 244 #[Cd p] w (Ret w (Ed w.heap.size c)):=by
 obtain⟨hx,y0,y1,y2⟩:=Nx w p
 have hx2:Below w.heap.size w ((w.alloc (.cells (Aw p) 141)).alloc (.cells cartZ 141)):=by go_grown
 have hxx:Below (w.alloc (.cells (Aw p) 141)).heap.size (w.alloc (.cells (Aw p) 141)) ((w.alloc (.cells (Aw p) 141)).alloc (.cells cartZ 141)):=by go_grown
 have X:=Avp (Adi w (.cells (Aw p) 141) cartZ 141)
 have Y0:=Avp (Ad hxx y0);have Y1:=Avp (Ad hxx y1);have Y2:=Avp (Ad hxx y2)
 have HB:=Avp hx2;have HS:=Avp hs
 have H:=Avp (h.mono hx2 fun _ x=>x)
 have S1:=Avp (show Small p.n∧Small p.m∧Small p.k by
  have h1:=h.vec.len;have h2:=h.cloud.len
  obtain⟨es,he,h3,_⟩:=h.its
  have h4:=h3.len
  have h5:es.length=c.items.length:=by rw[<-he,List.length_map]
  unfold Bd Ch at hs
  unfold Small
  omega)
 obtain⟨N,hN⟩:∃ N,N=w.heap.size:=⟨_,rfl⟩
 have EN:=Avp hN
 rw[<-hN] at X Y0 Y1 Y2
 have NB:=Avp (fun w1 (hb1:Below ((w.alloc (.cells (Aw p) 141)).alloc (.cells cartZ 141)).heap.size ((w.alloc (.cells (Aw p) 141)).alloc (.cells cartZ 141)) w1)=>show N+2<=w1.heap.size by have h1:=hb1.size;have h2:=X.out.lt;omega)
 clear hx hx2 hxx y0 y1 y2 h hs
 go_enter Tryz.func244,Tryz.ntmps244
 go_wp2_with fail
 rw[<-hN]
 clear hN
 refine Bu 13 mixed (by kernel_rfl) (by kernel_rfl) ?_
 refine Al.step (Ob.fieldV Aa.free Has.oldIs (fun w1=>Gj)) ?_
 refine Al.step (Ob.fieldV Aa.free (Has.new 0 0) (fun w1=>Af0)) ?_
 refine Al.step (Ob.loadV Aa.free (Has.new 1 0) (fun w1 hb1=>Aht hb1 Y0.out)) ?_
 refine Al.step (Ob.call1V Aa.free Ab4 (Has.new 2 0) (fun w1 hb1=>Ace (B:=N+2) (NB.out w1 hb1) (Tt p.A p.n p.ca c.ctx.1 w1 (H.out.vec.mono hb1) S1.out.1))) ?_
 refine Al.step (Ob.fieldV Aa.free Has.oldIs (fun w1=>Gj)) ?_
 refine Al.step (Ob.fieldV Aa.free (Has.new 4 0) (fun w1=>Ad3)) ?_
 refine Al.step (Ob.loadV Aa.free (Has.new 5 0) (fun w1 hb1=>Akc hb1 Y1.out)) ?_
 refine Al.step (Ob.call1V Aa.free Aao (Has.new 6 0) (fun w1 hb1=>Ace (B:=N+2) (NB.out w1 hb1) (Ur p.B p.m p.cb c.ctx.2 w1 (H.out.cloud.mono hb1) S1.out.2.1))) ?_
 refine Al.step ((Ob.build2 (F:=Aco (N+2) c.ctx)) Aa.free (Has.new 3 4) (Has.new 7 0) (fun w1 u v hb1 hu hv=>Ad6 hu hv)) ?_
 refine Al.step (Ob.fieldV Aa.free Has.oldIs (fun w1=>M1)) ?_
 refine Al.step (Ob.loadV Aa.free (Has.new 9 0) (fun w1 hb1=>Kn hb1 Y2.out)) ?_
 refine Al.step (Ob.call1V Aa.free Aa4 (Has.new 10 0) (fun w1 hb1=>Aoh (B:=N+2) (NB.out w1 hb1) (App (H.out.its.mono hb1 fun _ x=>x) S1.out.2.2 HS.out.mark))) ?_
 refine Al.step ((Ob.build2 (F:=Ed (N+2) c)) Aa.free (Has.new 8 3) (Has.new 11 0) (fun w1 u v hb1 hu hv=>Abq hu hv)) ?_
 simp only[Al,Ao,List.map,Bq,List.reverse_cons,List.reverse_nil,List.nil_append,List.cons_append,List.take_succ_cons,List.take_zero,List.drop_succ_cons,List.drop_zero]
 intro wE hE
 iterate 3 (rintro _ rfl)
 rintro _ _h3
 iterate 3 (rintro _ rfl)
 rintro _ _h7
 rintro _ _h8
 iterate 2 (rintro _ rfl)
 rintro _ _h11
 rintro _ ⟨q,rfl,hq⟩
 simp only[Act.put,List.setIfInBounds_toArray,List.set_cons_zero,List.set_cons_succ]
 have XE:=Avp (X.out.mono hE)
 replace HB:=Avp (HB.out.le hE)
 have Q:=Avp hq
 clear hE hq
 go_wp2_with ((with_reducible refine Ai (N+1) ?_ ?_);(next=>rfl))
 unfold Az
 refine Af (J:=N+1) rfl rfl rfl rfl rfl XE.out (show(Tryz.prog.info? 141).map (·.size)=some 3 by kernel_rfl) rfl (by simp[Value.oneCell']) ?_
 intro w9 hx9 hu9
 have X9:=Avp hx9;have U9:=Avp hu9
 clear hx9 hu9
 go_wp2
 refine bodyPost_ret (v:=Cd q) ?_ rfl ?_
 ·exact D5 Tryz.results244 rfl X9.out Tryz.underlying141 rfl (show(Tryz.prog.info? 141).map (·.size)=some 3 by kernel_rfl)
 have hN1:=EN.out
 exact⟨_,rfl,Ae HB.out (U9.out.below (by omega)),q,rfl,(Q.out.upd U9.out (by omega)).mono (Below.refl _ _) fun b hb=>by omega⟩
def Qw (c:Ar) (nm:List UInt8):Int×Int:=if Bo c then (match Jp c.items nm with | none=>(0,9) | some x=>Yo x) else (0,2)
theorem Amt {D:Nat->Prop} {w:World} {p:CPl} {c:Ar} {nm:List UInt8} (h:Bg D w p c) (hn:Bk w) (hs:Bd c):Calls Tryz.prog 123 #[Cd p,Ac nm] w (Ret w (Is (.tuple #[.int .i64 (Qw c nm).1,.int .i64 (Qw c nm).2]))):=by
 obtain⟨hx,y0,y1,y2⟩:=Nx w p
 have Y:=Avp (And.intro y0 (And.intro y1 y2))
 have HB:=Avp hx;have HS:=Avp hs
 have H:=Avp (h.mono hx fun _ x=>x)
 have NM:=Avp (hn.mono hx)
 have KV:=Avp (Eo (h.mono hx fun _ x=>x) (hn.mono hx) hs)
 obtain⟨N,hN⟩:∃ N,N=w.heap.size:=⟨_,rfl⟩
 have EN:=Avp hN
 rw[<-hN] at Y
 clear hx y0 y1 y2 h hs hn
 obtain⟨r,hr⟩:∃ r,r=Qw c nm:=⟨_,rfl⟩
 rw[<-hr]
 cases hv:Bo c with
 | false=>
  rw[hv] at KV
  have e:r=(0,2):=by rw[hr];unfold Qw;rw[if_neg (by simp[hv])]
  subst e
  clear hr hv
  go_enter Tryz.func123,Tryz.ntmps123
  go_wp2_with fail
  clear hN
  refine KV.out.mono ?_
  rintro _ w1 ⟨_,rfl,hb1,rfl⟩
  replace H:=Avp (H.out.mono hb1 fun _ x=>x)
  replace NM:=Avp (NM.out.mono hb1)
  replace HB:=Avp (HB.out.le hb1)
  replace Y:=Avp (And.intro (Ad hb1 Y.out.1) (And.intro (Ad hb1 Y.out.2.1) (Ad hb1 Y.out.2.2)))
  clear hb1 KV
  go_wp2
  refine bodyPost_ret (v:=.tuple #[.int .i64 0,.int .i64 2]) (by simp[results,Tryz.results123,go_sem]) rfl ?_
  exact⟨_,rfl,HB.out,rfl⟩
 | true=>
  rw[hv] at KV
  cases hf:Jp c.items nm with
  | none=>
   have e:r=(0,9):=by rw[hr];unfold Qw;rw[if_pos hv,hf]
   subst e
   clear hr hv
   go_enter Tryz.func123,Tryz.ntmps123
   go_wp2_with fail
   rw[<-hN]
   clear hN
   refine KV.out.mono ?_
   rintro _ w1 ⟨_,rfl,hb1,rfl⟩
   replace H:=Avp (H.out.mono hb1 fun _ x=>x)
   replace NM:=Avp (NM.out.mono hb1)
   replace HB:=Avp (HB.out.le hb1)
   replace Y:=Avp (And.intro (Ad hb1 Y.out.1) (And.intro (Ad hb1 Y.out.2.1) (Ad hb1 Y.out.2.2)))
   have F:=Avp (Adj (nm:=nm) H.out.its HS.out.mark)
   rw[hf] at F
   have q2:=Y.out.2.2
   clear hb1 KV hf
   go_wp2_with fail
   refine F.out.mono ?_
   rintro _ w2 ⟨_,rfl,hb2,rfl⟩
   replace H:=Avp (H.out.mono hb2 fun _ x=>x)
   replace NM:=Avp (NM.out.mono hb2)
   replace HB:=Avp (HB.out.le hb2)
   replace Y:=Avp (And.intro (Ad hb2 Y.out.1) (And.intro (Ad hb2 Y.out.2.1) (Ad hb2 Y.out.2.2)))
   clear hb2 F q2
   go_wp2
   refine bodyPost_ret (v:=.tuple #[.int .i64 0,.int .i64 9]) (by simp[results,Tryz.results123,go_sem]) rfl ?_
   exact⟨_,rfl,HB.out.le (by go_grown),rfl⟩
  | some x=>
   have e:r=Yo x:=by rw[hr];unfold Qw;rw[if_pos hv,hf]
   subst e
   have hxs:Small x.2.length:=HS.out.mark x (List.mem_of_find?_eq_some hf)
   have HXS:=Avp hxs
   clear hr hv hxs
   go_enter Tryz.func123,Tryz.ntmps123
   go_wp2_with fail
   rw[<-hN]
   clear hN
   refine KV.out.mono ?_
   rintro _ w1 ⟨_,rfl,hb1,rfl⟩
   replace H:=Avp (H.out.mono hb1 fun _ x=>x)
   replace NM:=Avp (NM.out.mono hb1)
   replace HB:=Avp (HB.out.le hb1)
   replace Y:=Avp (And.intro (Ad hb1 Y.out.1) (And.intro (Ad hb1 Y.out.2.1) (Ad hb1 Y.out.2.2)))
   have F:=Avp (Adj (nm:=nm) H.out.its HS.out.mark)
   rw[hf] at F
   have q2:=Y.out.2.2
   clear hb1 KV hf
   go_wp2_with fail
   refine F.out.mono ?_
   rintro _ w2 ⟨_,rfl,hb2,y,rfl,rfl,hy⟩
   replace H:=Avp (H.out.mono hb2 fun _ x=>x)
   replace NM:=Avp (NM.out.mono hb2)
   replace HB:=Avp (HB.out.le hb2)
   replace Y:=Avp (And.intro (Ad hb2 Y.out.1) (And.intro (Ad hb2 Y.out.2.1) (Ad hb2 Y.out.2.2)))
   have hax:Below w2.heap.size w2 (w2.alloc (.cells (itC y) 246)):=by go_grown
   have Q:=Avp (Ava (hy.mono hax fun _ x=>x) (NM.out.mono hax) (by rw[hy.sl.len];exact HXS.out))
   replace H:=Avp (H.out.mono hax fun _ x=>x)
   replace NM:=Avp (NM.out.mono hax)
   replace HB:=Avp (HB.out.le hax)
   replace Y:=Avp (And.intro (Ad hax Y.out.1) (And.intro (Ad hax Y.out.2.1) (Ad hax Y.out.2.2)))
   clear hb2 F q2 hy hax
   generalize Yo y.s=r at *
   go_wp2_with fail
   refine Q.out.mono ?_
   rintro _ w3 ⟨_,rfl,hb3,rfl⟩
   replace HB:=Avp (HB.out.le hb3)
   clear hb3 Q
   go_wp2
   refine bodyPost_ret (v:=.tuple #[.int .i64 r.1,.int .i64 r.2]) (by simp[results,Tryz.results123,go_sem]) rfl ?_
   exact⟨_,rfl,HB.out,rfl⟩
def encS:Enc (List UInt8):=⟨1,fun s=>[Ac s],fun _=>rfl,fun s u hu=>by rw[List.mem_singleton.1 hu];rfl⟩
theorem Sw:Inf Tryz.prog 9 encS 16:=by
 obtain⟨i,h1,h2,h3,h4⟩:=info_parts (P:=Tryz.prog) (show(Tryz.prog.info? 9).map (fun i=>(i.zero,i.size,i.bytes))=some (some (.string .empty),1,16) by kernel_rfl)
 exact⟨⟨i,_,h1,h2,h3,h4,rfl⟩,by decide,by decide⟩
abbrev Vk (B:Nat) (l:List (List UInt8)):World->Value->Prop:=M0 encS 9 B l
def Df (l:List As):List (List UInt8):=l.map (·.1)
def Ii (c:Ar):List (List UInt8):=if Bo c then Df c.items else []
theorem Aqj (w:World) (o:Obj) (s:List UInt8) (ty:TypeId):Sl encS ((w.alloc o).alloc (.cells #[Ac s] ty)) (some ⟨w.heap.size+1,0,none⟩) 1 1 [s]:=by
 have:=Sl.new encS (w.alloc o) [s] (by simp) #[Ac s] rfl ty
 rw[World.size_alloc] at this
 exact this
def Atd (w:World) (N n:Nat) (l:List As) (v i:Value) (wr:World):Prop:=∃ k:Nat,i = .int .i64 k∧k<=n∧Below N w wr∧Ag encS 9 wr N v (Df (l.take k))
theorem Yx {l:List As} {k:Nat} {x:As} (h:l[k]?=some x):Df (l.take (k+1))=Df (l.take k)++[x.1]:=by rw[Cc h];simp[Df]
theorem We {D:Nat->Prop} {w:World} {p:CPl} {c:Ar} (h:Bg D w p c) (hn:Bk w) (hs:Bd c):Calls Tryz.prog 193 #[Cd p] w (Ret w (Vk w.heap.size (Ii c))):=by
 obtain⟨hx,y0,y1,y2⟩:=Nx w p
 have Y:=Avp (And.intro y0 (And.intro y1 y2))
 have HB:=Avp hx;have HS:=Avp hs
 have H:=Avp (h.mono hx fun _ x=>x)
 have NM:=Avp (hn.mono hx)
 have KV:=Avp (Eo (h.mono hx fun _ x=>x) (hn.mono hx) hs)
 obtain⟨N,hN⟩:∃ N,N=w.heap.size:=⟨_,rfl⟩
 have EN:=Avp hN
 rw[<-hN] at Y
 clear hx y0 y1 y2 h hs hn
 cases hv:Bo c with
 | false=>
  rw[hv] at KV
  have e:Ii c=[]:=by unfold Ii;rw[if_neg (by simp[hv])]
  rw[e]
  clear hv e
  go_enter Tryz.func193,Tryz.ntmps193
  go_wp2_with fail
  clear hN
  refine KV.out.mono ?_
  rintro _ w1 ⟨_,rfl,hb1,rfl⟩
  replace H:=Avp (H.out.mono hb1 fun _ x=>x)
  replace NM:=Avp (NM.out.mono hb1)
  replace HB:=Avp (HB.out.le hb1)
  replace Y:=Avp (And.intro (Ad hb1 Y.out.1) (And.intro (Ad hb1 Y.out.2.1) (Ad hb1 Y.out.2.2)))
  clear hb1 KV
  go_wp2
  go_ret
  exact⟨_,rfl,HB.out,Ag.nil_ _ _ _ _⟩
 | true=>
  rw[hv] at KV
  have e:Ii c=Df c.items:=by unfold Ii;rw[if_pos hv]
  rw[e]
  clear hv e
  obtain⟨es,he,s0,i0,k0⟩:=H.out.its
  have hl:p.k=c.items.length:=by rw[s0.len,<-he,List.length_map]
  have hbig:=s0.big
  have HL:=Avp hl
  clear es he s0 i0 k0 hl
  go_enter Tryz.func193,Tryz.ntmps193
  go_wp2_with fail
  rw[<-hN]
  clear hN
  refine KV.out.mono ?_
  rintro _ w1 ⟨_,rfl,hb1,rfl⟩
  replace H:=Avp (H.out.mono hb1 fun _ x=>x)
  replace NM:=Avp (NM.out.mono hb1)
  replace HB:=Avp (HB.out.le hb1)
  replace Y:=Avp (And.intro (Ad hb1 Y.out.1) (And.intro (Ad hb1 Y.out.2.1) (Ad hb1 Y.out.2.2)))
  have q2:=Y.out.2.2
  clear hb1 KV
  go_wp2
  clear q2
  go_loopw [3,12] (fun v i wr=>Atd w1 w1.heap.size p.k c.items v i wr) (fun _ i _=>p.k - (intOf i).toNat)
  case atStart=>exact⟨0,rfl,Nat.zero_le _,Below.refl _ _,Ag.nil_ _ _ _ _⟩
  case round=>
   obtain⟨k,rfl,hk,hbr,hr⟩:=hrel
   have HR:=Avp hbr;have R:=Avp hr;have LK:=Avp hk
   clear hbr hr hk
   by_cases hlt:k<p.k
   ·obtain⟨es,he,s1,_,_⟩:=(H.out.its.mono HR.out fun _ x=>x)
    obtain⟨b,o,m,hA,hbl,hm,_,c0,c1⟩:=s1.item hlt
    have hix:=(show(Instr.indexAt 139 (.slice p.C p.k p.cc) (.int .i64 (k:Int))).run Tryz.prog wr = .ok (.pointer (some ⟨b,o+k*2,none⟩)) wr by rw[hA];simp[go_sem,hlt])
    have hl2:c.items[k]?=some m.s:=by rw[<-he,List.getElem?_map,hm];rfl
    have HT:=Avp (Yx hl2)
    have LT:=Avp hlt
    have D1:=Avp (Aqj wr (.cells (itC m) 246) m.nm 9)
    have hlen:(Df (c.items.take k)).length+1<=1000000:=by have:=HS.out.its.out;have:=HL.out;simp[Df];omega
    have HLN:=Avp hlen
    clear hm hA hl2 he s1 hlen
    go_wp2_with (first
     | (at_builtin;refine Aj (B:=w1.heap.size) (l:=Df (c.items.take k)) (k:=[m.nm]) Sw rfl rfl Tryz.underlying67 rfl rfl (R.out.mono (by go_grown)) D1.out (by have:=HLN.out;simp;omega) (by have:=HR.out.size;simp;omega) ?_;intro v2 w2 o2 g2 _;have O2:=Avp o2;have G2:=Avp g2;clear o2 g2)
     | fail)
    go_roundw
    case rel=>exact⟨k+1,by simp,LT.out,(HR.out.le (show Below wr.heap.size wr _ by go_grown)).grown G2.out (by have:=HR.out.size;simp;omega) (fun q hq=>(R.out.own q hq).1),by rw[HT.out];exact O2.out⟩
    case measure=>simp[intOf];have:=LT.out;omega
   ·obtain rfl:k=p.k:=by have:=LK.out;omega
    have r:=R.out
    rw[HL.out,List.take_length] at r
    have R2:=Avp r
    clear r
    go_wp2
    go_ret
    exact⟨_,rfl,HB.out.le HR.out,R2.out.low HB.out.size⟩
def Dl (c:Ar) (nm:List UInt8):List Dot:=if Bo c then (if nm=[] then Gf c.items else match Jp c.items nm with | none=>[] | some x=>Dk x.2) else []
theorem Ar6 {D:Nat->Prop} {w:World} {p:CPl} {c:Ar} {nm:List UInt8} (h:Bg D w p c) (hn:Bk w) (hs:Bd c):Calls Tryz.prog 195 #[Cd p,Ac nm] w (Ret w (Dd w.heap.size (Dl c nm))):=by
 obtain⟨hx,y0,y1,y2⟩:=Nx w p
 have Y:=Avp (And.intro y0 (And.intro y1 y2))
 have HB:=Avp hx;have HS:=Avp hs
 have H:=Avp (h.mono hx fun _ x=>x)
 have NM:=Avp (hn.mono hx)
 have KV:=Avp (Eo (h.mono hx fun _ x=>x) (hn.mono hx) hs)
 obtain⟨N,hN⟩:∃ N,N=w.heap.size:=⟨_,rfl⟩
 have EN:=Avp hN
 rw[<-hN] at Y
 clear hx y0 y1 y2 h hs hn
 clear KV
 have F:=Avp (Adj (nm:=nm) H.out.its HS.out.mark)
 have FX:=Avp (show ∀ x,Jp c.items nm=some x->Small x.2.length from fun x hx=>HS.out.mark x (List.mem_of_find?_eq_some hx))
 have q2:=Y.out.2.2
 cases hf:Jp c.items nm with
 | none=>
  rw[hf] at F
  go_enter Tryz.func195,Tryz.ntmps195
  go_wp2_with fail
  rw[<-hN]
  clear hN q2
  refine F.out.mono ?_
  rintro _ w1 ⟨_,rfl,hb1,rfl⟩
  have hax:Below w1.heap.size w1 (w1.alloc (.cells itZ 246)):=by go_grown
  replace H:=Avp (H.out.mono hb1 fun _ x=>x)
  replace NM:=Avp (NM.out.mono hb1)
  replace HB:=Avp (HB.out.le hb1)
  replace Y:=Avp (And.intro (Ad hb1 Y.out.1) (And.intro (Ad hb1 Y.out.2.1) (Ad hb1 Y.out.2.2)))
  replace H:=Avp (H.out.mono hax fun _ x=>x)
  replace NM:=Avp (NM.out.mono hax)
  replace HB:=Avp (HB.out.le hax)
  replace Y:=Avp (And.intro (Ad hax Y.out.1) (And.intro (Ad hax Y.out.2.1) (Ad hax Y.out.2.2)))
  have KV:=Avp (Eo H.out NM.out HS.out)
  have y0:=Y.out.1;have y1:=Y.out.2.1;have y2:=Y.out.2.2
  clear hb1 F hax
  cases hv:Bo c with
  | false=>
   have E:=Avp (show Dl c nm=[] by unfold Dl;rw[if_neg (by simp[hv])])
   rw[hv] at KV
   clear hv hf
   go_wp2_with fail
   refine KV.out.mono ?_
   rintro _ w2 ⟨_,rfl,hb2,rfl⟩
   replace H:=Avp (H.out.mono hb2 fun _ x=>x)
   replace NM:=Avp (NM.out.mono hb2)
   replace HB:=Avp (HB.out.le hb2)
   replace Y:=Avp (And.intro (Ad hb2 Y.out.1) (And.intro (Ad hb2 Y.out.2.1) (Ad hb2 Y.out.2.2)))
   clear hb2 KV y0 y1 y2
   go_wp2
   go_ret
   exact⟨_,rfl,HB.out,by rw[E.out];exact Row.nil_ _ _⟩
  | true=>
   rw[hv] at KV
   by_cases hnm:nm=[]
   ·have E:=Avp (show Dl c nm=Gf c.items by unfold Dl;rw[if_pos hv,if_pos hnm])
    subst hnm
    clear hv hf
    go_wp2_with fail
    refine KV.out.mono ?_
    rintro _ w2 ⟨_,rfl,hb2,rfl⟩
    replace H:=Avp (H.out.mono hb2 fun _ x=>x)
    replace NM:=Avp (NM.out.mono hb2)
    replace HB:=Avp (HB.out.le hb2)
    replace Y:=Avp (And.intro (Ad hb2 Y.out.1) (And.intro (Ad hb2 Y.out.2.1) (Ad hb2 Y.out.2.2)))
    clear hb2 KV y0 y1 y2
    have y2:=Y.out.2.2
    have I:=Avp (Adk H.out.its HS.out.all)
    go_wp2_with fail
    refine I.out.mono ?_
    rintro _ w3 ⟨_,rfl,hb3,hr3⟩
    have R3:=Avp (Row.low hr3 HB.out.size)
    replace HB:=Avp (HB.out.le hb3)
    clear hb3 hr3 I y2
    go_wp2
    go_ret
    exact⟨_,rfl,HB.out,by rw[E.out];exact R3.out⟩
   ·have E:=Avp (show Dl c nm=[] by unfold Dl;rw[if_pos hv,if_neg hnm,hf])
    have hne:decide (nm=[])=false:=by simpa using hnm
    have hne2:(nm==[])=false:=by simpa using hnm
    have hne3:nm.isEmpty=false:=by simpa using hnm
    clear hv hf
    go_wp2_with fail
    refine KV.out.mono ?_
    rintro _ w2 ⟨_,rfl,hb2,rfl⟩
    replace H:=Avp (H.out.mono hb2 fun _ x=>x)
    replace NM:=Avp (NM.out.mono hb2)
    replace HB:=Avp (HB.out.le hb2)
    replace Y:=Avp (And.intro (Ad hb2 Y.out.1) (And.intro (Ad hb2 Y.out.2.1) (Ad hb2 Y.out.2.2)))
    clear hb2 KV y0 y1 y2
    go_wp2
    go_ret
    exact⟨_,rfl,HB.out,by rw[E.out];exact Row.nil_ _ _⟩
 | some x=>
  rw[hf] at F
  have HXS:=Avp (FX.out x hf)
  go_enter Tryz.func195,Tryz.ntmps195
  go_wp2_with fail
  rw[<-hN]
  clear hN q2
  refine F.out.mono ?_
  rintro _ w1 ⟨_,rfl,hb1,e,rfl,he,hy⟩
  have hax:Below w1.heap.size w1 (w1.alloc (.cells (itC e) 246)):=by go_grown
  have z1:(w1.alloc (.cells (itC e) 246)).cell? ⟨w1.heap.size,1,none⟩=some (.slice e.A e.n e.c):=by simp[go_sem]
  have Z:=Avp z1;have HY:=Avp (hy.sl.mono hax);have EX:=Avp he
  replace H:=Avp (H.out.mono hb1 fun _ x=>x)
  replace NM:=Avp (NM.out.mono hb1)
  replace HB:=Avp (HB.out.le hb1)
  replace Y:=Avp (And.intro (Ad hb1 Y.out.1) (And.intro (Ad hb1 Y.out.2.1) (Ad hb1 Y.out.2.2)))
  replace H:=Avp (H.out.mono hax fun _ x=>x)
  replace NM:=Avp (NM.out.mono hax)
  replace HB:=Avp (HB.out.le hax)
  replace Y:=Avp (And.intro (Ad hax Y.out.1) (And.intro (Ad hax Y.out.2.1) (Ad hax Y.out.2.2)))
  have KV:=Avp (Eo H.out NM.out HS.out)
  have y0:=Y.out.1;have y1:=Y.out.2.1;have y2:=Y.out.2.2
  obtain⟨J,hJ⟩:∃ J,J=w1.heap.size:=⟨_,rfl⟩
  rw[<-hJ] at Z
  clear hb1 F hax z1 hy he
  cases hv:Bo c with
  | false=>
   have E:=Avp (show Dl c nm=[] by unfold Dl;rw[if_neg (by simp[hv])])
   rw[hv] at KV
   clear hv hf
   go_wp2_with fail
   clear hJ
   refine KV.out.mono ?_
   rintro _ w2 ⟨_,rfl,hb2,rfl⟩
   replace H:=Avp (H.out.mono hb2 fun _ x=>x)
   replace NM:=Avp (NM.out.mono hb2)
   replace HB:=Avp (HB.out.le hb2)
   replace Y:=Avp (And.intro (Ad hb2 Y.out.1) (And.intro (Ad hb2 Y.out.2.1) (Ad hb2 Y.out.2.2)))
   clear hb2 KV y0 y1 y2
   go_wp2
   go_ret
   exact⟨_,rfl,HB.out,by rw[E.out];exact Row.nil_ _ _⟩
  | true=>
   rw[hv] at KV
   by_cases hnm:nm=[]
   ·have E:=Avp (show Dl c nm=Gf c.items by unfold Dl;rw[if_pos hv,if_pos hnm])
    subst hnm
    clear hv hf
    go_wp2_with fail
    clear hJ
    refine KV.out.mono ?_
    rintro _ w2 ⟨_,rfl,hb2,rfl⟩
    replace H:=Avp (H.out.mono hb2 fun _ x=>x)
    replace NM:=Avp (NM.out.mono hb2)
    replace HB:=Avp (HB.out.le hb2)
    replace Y:=Avp (And.intro (Ad hb2 Y.out.1) (And.intro (Ad hb2 Y.out.2.1) (Ad hb2 Y.out.2.2)))
    clear hb2 KV y0 y1 y2
    have y2:=Y.out.2.2
    have I:=Avp (Adk H.out.its HS.out.all)
    go_wp2_with fail
    refine I.out.mono ?_
    rintro _ w3 ⟨_,rfl,hb3,hr3⟩
    have R3:=Avp (Row.low hr3 HB.out.size)
    replace HB:=Avp (HB.out.le hb3)
    clear hb3 hr3 I y2
    go_wp2
    go_ret
    exact⟨_,rfl,HB.out,by rw[E.out];exact R3.out⟩
   ·have E:=Avp (show Dl c nm=Dk e.ms by unfold Dl;rw[if_pos hv,if_neg hnm,hf];show Dk x.2=_;rw[<-EX.out];rfl)
    have hne:decide (nm=[])=false:=by simpa using hnm
    have hne2:(nm==[])=false:=by simpa using hnm
    have hne3:nm.isEmpty=false:=by simpa using hnm
    clear hv hf
    go_wp2_with fail
    rw[<-hJ]
    clear hJ
    refine KV.out.mono ?_
    rintro _ w2 ⟨_,rfl,hb2,rfl⟩
    replace H:=Avp (H.out.mono hb2 fun _ x=>x)
    replace NM:=Avp (NM.out.mono hb2)
    replace HB:=Avp (HB.out.le hb2)
    replace Y:=Avp (And.intro (Ad hb2 Y.out.1) (And.intro (Ad hb2 Y.out.2.1) (Ad hb2 Y.out.2.2)))
    have z1:=Ad hb2 Z.out
    have Q:=Avp (Aio (HY.out.mono hb2) (by rw[HY.out.len];have:=HXS.out;rw[<-EX.out] at this;exact this))
    clear hb2 KV y0 y1 y2
    go_wp2_with fail
    refine Q.out.mono ?_
    rintro _ w3 ⟨_,rfl,hb3,hr3⟩
    have R3:=Avp (Row.low hr3 HB.out.size)
    replace HB:=Avp (HB.out.le hb3)
    clear hb3 hr3 Q z1
    go_wp2
    go_ret
    exact⟨_,rfl,HB.out,by rw[E.out];exact R3.out⟩
def Js (l:List As):List Av:=l.flatMap (·.2)
theorem Aew {l:List As} {k:Nat} {x:As} (h:l[k]?=some x):Js (l.take (k+1))=Js (l.take k)++x.2:=by rw[Cc h];simp[Js]
theorem Ye (l:List As):(Js l).length=(Cn l).length:=by
 induction l with
 | nil=>rfl
 | cons a t ih=>simp[Js,Cn,Dk] at * <;> omega
theorem Ak8 (l:List As) (k:Nat):(Js (l.take k)).length<=(Js l).length:=by
 have:Js l=Js (l.take k)++Js (l.drop k):=by unfold Js;rw[<-List.flatMap_append,List.take_append_drop]
 rw[this,List.length_append];omega
def Ik (c:Ar):Nat×Int:=if Bo c then Ol (Js c.items) else (0,2)
theorem Fi.tm {D:Nat->Prop} {w:World} {A:Option Addr} {n c:Nat} {l:List As} (h:Fi D w A n c l):∀ m∈Js l,Jk m:=by
 obtain⟨es,rfl,_,_,h3⟩:=h
 intro m hm
 unfold Js at hm
 rw[List.mem_flatMap] at hm
 obtain⟨x,hx,hm⟩:=hm
 obtain⟨e,he,rfl⟩:=List.mem_map.1 hx
 exact(h3 e he).tm.1 m hm
theorem Fi.nb {D:Nat->Prop} {w:World} {A:Option Addr} {n c:Nat} {l:List As} (h:Fi D w A n c l):∀ x∈l,x.1.length<=1000000:=by
 obtain⟨es,rfl,_,_,h3⟩:=h
 intro x hx
 obtain⟨e,he,rfl⟩:=List.mem_map.1 hx
 exact(h3 e he).tm.2
def Atg (w:World) (N n:Nat) (l:List As) (v i:Value) (wr:World):Prop:=∃ k:Nat,i = .int .i64 k∧k<=n∧Below N w wr∧Ag encM 249 wr N v (Js (l.take k))
theorem Apx {D:Nat->Prop} {w:World} {p:CPl} {c:Ar} (h:Bg D w p c) (hn:Bk w) (hs:Bd c):Calls Tryz.prog 251 #[Cd p] w (Ret w (Is (.tuple #[.int .u64 ((Ik c).1:Nat),.int .i64 (Ik c).2]))):=by
 obtain⟨hx,y0,y1,y2⟩:=Nx w p
 have Y:=Avp (And.intro y0 (And.intro y1 y2))
 have HB:=Avp hx;have HS:=Avp hs
 have H:=Avp (h.mono hx fun _ x=>x)
 have NM:=Avp (hn.mono hx)
 have KV:=Avp (Eo (h.mono hx fun _ x=>x) (hn.mono hx) hs)
 obtain⟨N,hN⟩:∃ N,N=w.heap.size:=⟨_,rfl⟩
 have EN:=Avp hN
 rw[<-hN] at Y
 clear hx y0 y1 y2 h hs hn
 obtain⟨r,hr⟩:∃ r,r=Ik c:=⟨_,rfl⟩
 rw[<-hr]
 cases hv:Bo c with
 | false=>
  rw[hv] at KV
  have e:r=(0,2):=by rw[hr];unfold Ik;rw[if_neg (by simp[hv])]
  subst e
  clear hr hv
  go_enter Tryz.func251,Tryz.ntmps251
  go_wp2_with fail
  clear hN
  refine KV.out.mono ?_
  rintro _ w1 ⟨_,rfl,hb1,rfl⟩
  replace H:=Avp (H.out.mono hb1 fun _ x=>x)
  replace NM:=Avp (NM.out.mono hb1)
  replace HB:=Avp (HB.out.le hb1)
  replace Y:=Avp (And.intro (Ad hb1 Y.out.1) (And.intro (Ad hb1 Y.out.2.1) (Ad hb1 Y.out.2.2)))
  clear hb1 KV
  go_wp2
  refine bodyPost_ret (v:=.tuple #[.int .u64 0,.int .i64 2]) (by simp[results,Tryz.results251,go_sem]) rfl ?_
  exact⟨_,rfl,HB.out,rfl⟩
 | true=>
  rw[hv] at KV
  have e:r=Ol (Js c.items):=by rw[hr];unfold Ik;rw[if_pos hv]
  have ER:=Avp e
  clear hr hv e
  obtain⟨es,he,s0,i0,k0⟩:=H.out.its
  have hl:p.k=c.items.length:=by rw[s0.len,<-he,List.length_map]
  have hbig:=s0.big
  have HL:=Avp hl
  clear es he s0 i0 k0 hl
  go_enter Tryz.func251,Tryz.ntmps251
  go_wp2_with fail
  rw[<-hN]
  clear hN
  refine KV.out.mono ?_
  rintro _ w1 ⟨_,rfl,hb1,rfl⟩
  replace H:=Avp (H.out.mono hb1 fun _ x=>x)
  replace NM:=Avp (NM.out.mono hb1)
  replace HB:=Avp (HB.out.le hb1)
  replace Y:=Avp (And.intro (Ad hb1 Y.out.1) (And.intro (Ad hb1 Y.out.2.1) (Ad hb1 Y.out.2.2)))
  have q2:=Y.out.2.2
  clear hb1 KV
  go_wp2
  clear q2
  go_loopw [4,13] (fun v i wr=>Atg w1 w1.heap.size p.k c.items v i wr) (fun _ i _=>p.k - (intOf i).toNat)
  case atStart=>exact⟨0,rfl,Nat.zero_le _,Below.refl _ _,Ag.nil_ _ _ _ _⟩
  case round=>
   obtain⟨k,rfl,hk,hbr,hr⟩:=hrel
   have HR:=Avp hbr;have R:=Avp hr;have LK:=Avp hk
   clear hbr hr hk
   by_cases hlt:k<p.k
   ·obtain⟨es,he,s1,_,i1⟩:=(H.out.its.mono HR.out fun _ x=>x)
    obtain⟨b,o,m,hA,hbl,hm,_,c0,c1⟩:=s1.item hlt
    have hix:=(show(Instr.indexAt 139 (.slice p.C p.k p.cc) (.int .i64 (k:Int))).run Tryz.prog wr = .ok (.pointer (some ⟨b,o+k*2,none⟩)) wr by rw[hA];simp[go_sem,hlt])
    have hl2:c.items[k]?=some m.s:=by rw[<-he,List.getElem?_map,hm];rfl
    have hT:=Aew hl2
    have hle:=Ak8 c.items (k+1)
    rw[hT,List.length_append,Ye c.items] at hle
    have HT:=Avp hT;have HLE:=Avp hle
    have LT:=Avp hlt
    have D1:=Avp ((i1 m (List.mem_of_getElem? hm)).sl.mono (show Below wr.heap.size wr (wr.alloc (.cells (itC m) 246)) by go_grown))
    clear hm hA hl2 he s1 i1 hT hle
    go_wp2_with (first
     | (at_builtin;refine Aj (B:=w1.heap.size) (l:=Js (c.items.take k)) (k:=m.ms) Aba rfl rfl Tryz.underlying244 rfl rfl (R.out.mono (by go_grown)) D1.out (by have h1:=HLE.out;have h2:=HS.out.all.out;simp[ItE.s] at h1;omega) (by have:=HR.out.size;simp;omega) ?_;intro v2 w2 o2 g2 _;have O2:=Avp o2;have G2:=Avp g2;clear o2 g2)
     | fail)
    go_roundw
    case rel=>exact⟨k+1,by simp,LT.out,(HR.out.le (show Below wr.heap.size wr _ by go_grown)).grown G2.out (by have:=HR.out.size;simp;omega) (fun q hq=>(R.out.own q hq).1),by rw[HT.out];exact O2.out⟩
    case measure=>simp[intOf];have:=LT.out;omega
   ·obtain rfl:k=p.k:=by have:=LK.out;omega
    have r:=R.out
    rw[HL.out,List.take_length] at r
    obtain⟨A2,c2,rfl,s2⟩:=Ag.sl r
    have Q:=Avp (Asq s2 (by rw[Ye];exact HS.out.all) H.out.its.tm)
    rw[<-ER.out] at Q
    clear r s2
    go_wp2_with fail
    refine Q.out.mono ?_
    rintro _ w2 ⟨_,rfl,hb2,rfl⟩
    have HB2:=Avp ((HB.out.le HR.out).le hb2)
    clear hb2 Q
    go_wp2
    refine bodyPost_ret (v:=.tuple #[.int .u64 (r.1:Nat),.int .i64 r.2]) (by simp[results,Tryz.results251,go_sem]) rfl ?_
    exact⟨_,rfl,HB2.out,rfl⟩
section
variable {α:Type} {e:Enc α} {ty:TypeId} {w:World} {B g n cap:Nat} {l:List α}
theorem Ag.lenEq {A:Option Addr} (h:Ag e ty w B (.slice A n cap) l):n=l.length:=by
 rcases h.2 with⟨h',h0⟩ | ⟨g',cap',cur,h',_⟩
 ·cases h';exact h0.symm
 ·cases h';rfl
def Agy:List Value->Nat->List Value->List Value
 | xs,_,[]=>xs
 | xs,o,v::r=>Agy (xs.set o v) (o+1) r
theorem Xo:∀ (a old c new:List Value),old.length=new.length->Agy (a++old++c) a.length new=a++new++c
 | a,[],c,[],_=>by simp[Agy]
 | a,x::old,c,v::new,h=>by
  have ih:=Xo (a++[v]) old c new (by simpa using h)
  simp only[List.length_append,List.length_singleton,List.append_assoc,List.singleton_append,List.nil_append] at ih
  simp only[Agy]
  have e1:(a++x::old++c).set a.length v=a++v::(old++c):=by simp
  rw[e1]
  simpa using ih
theorem Mt:∀ (vs:List Value) (o:Nat) (w:World) (m:Nat) (xs:List Value) (z:Nat),w.ownsRow B ty z (.slice (some ⟨g,0,none⟩) m cap) m xs->(w.setCells g o vs).ownsRow B ty z (.slice (some ⟨g,0,none⟩) m cap) m (Agy xs o vs)
 | [],_,_,_,_,_,h=>h
 | v::r,o,w,m,xs,z,h=>Mt r (o+1) _ m _ z (World.ownsRow.stored h o v).1
theorem Enc.all_mid {k:Nat} {x:α} (hk:l[k]?=some x):e.all l=e.all (l.take k)++e.enc x++e.all (l.drop (k+1)):=by
 have hkl:=(List.getElem?_eq_some_iff.1 hk).1
 have h1:l=l.take k++x::l.drop (k+1):=by
  rw[<-(List.getElem?_eq_some_iff.1 hk).2,<-List.drop_eq_getElem_cons hkl,List.take_append_drop]
 have h2:e.all l=e.all (l.take k++x::l.drop (k+1)):=by rw[<-h1]
 rw[h2,Enc.all_append,Enc.all_cons,List.append_assoc]
theorem Ag.setEl (h:Ag e ty w B (.slice (some ⟨g,0,none⟩) n cap) l) {k:Nat} (hk:k<l.length) (y:α) :
  Ag e ty (w.setCells g (k*e.z) (e.enc y)) B (.slice (some ⟨g,0,none⟩) n cap) (l.set k y)∧Upd g w (w.setCells g (k*e.z) (e.enc y)):=by
 refine⟨?_,G7 g _ _ _⟩
 have hn:=h.lenEq
 subst hn
 have hk1:l[k]?=some l[k]:=List.getElem?_eq_getElem hk
 have hk2:(l.set k y)[k]?=some y:=by rw[List.getElem?_set_self hk]
 have h':=Mt (e.enc y) (k*e.z) w l.length (e.all l) e.z h
 have hl:(e.all (l.take k)).length=k*e.z:=by rw[Enc.all_length,List.length_take,Nat.min_eq_left (by omega)]
 rw[Enc.all_mid hk1,<-hl,Xo _ _ _ _ (by rw[e.len,e.len])] at h'
 unfold Ag
 rw[List.length_set,Enc.all_mid hk2,List.take_set_of_le (Nat.le_refl _),List.drop_set_of_lt (Nat.lt_succ_self _)]
 rw[hl] at h'
 exact h'
def Fk (z:Nat) (A:Option Addr) (c k:Nat):Option Addr:=if c=k then A else A.map (·.add (k*z))
theorem An.refl_ (N:Nat) (r:Option Nat) (w:World):An N r w w:=⟨rfl,rfl,rfl,Nat.le_refl _,fun _ _ _ _=>rfl⟩
theorem Upd.refl_ (g:Nat) (w:World):Upd g w w:=⟨rfl,rfl,rfl,rfl,fun _ _=>rfl⟩
theorem An.updO {N:Nat} {w1 w2 w0:World} (h:An N (some g) w0 w1) (u:Upd g w1 w2):An N (some g) w0 w2:=
 ⟨u.os.trans h.os,u.tape.trans h.tape,u.output.trans h.output,Nat.le_trans h.size (Nat.le_of_eq u.size.symm),fun k hk h1 h2=>(u.block k (fun e=>h2 (by rw[e]))).trans (h.block k hk h1 h2)⟩
theorem An.from_ {M:Nat} {r:Option Nat} {w0 w1 w2:World} (h:Below w0.heap.size w0 w1) (k:An M r w1 w2) (hM:w0.heap.size<=M):An w0.heap.size r w0 w2:=
 ⟨k.os.trans h.os,k.tape.trans h.tape,k.output.trans h.output,Nat.le_trans h.size k.size,fun j hj _ h2=>(k.block j (Nat.lt_of_lt_of_le hj h.size) (by omega) h2).trans (h.block j hj)⟩
theorem An.belowO {B:Nat} {w0 w1:World} (h:An w0.heap.size (some g) w0 w1) (h1:B<=g) (h2:B<=w0.heap.size):Below B w0 w1:=h.below h2 h2 (fun q e=>by cases e;exact h1)
theorem Ld {t:TypeId} {zc:Array Value} (ht:Tryz.prog.underlying t=some (.slice ty)) (hz':∀ w,∃ z,(zeroValue ty).run Tryz.prog w = .ok z w∧z.cells=zc) (hzs:zc.size=e.z) (hz1:∀ v∈zc,v.oneCell'=true) (hpos:0<e.z)
  (h:Ag e ty w B (.slice (some ⟨g,0,none⟩) l.length cap) l) {k:Nat} (hk:k<=l.length) (rt:TypeId) :
  ∃ w',(Builtin.clear_ #[t] rt #[.slice (Fk e.z (some ⟨g,0,none⟩) cap k) (l.length - k) (cap - k)]).run Tryz.prog w = .ok (.tuple #[]) w'∧Ag e ty w' B (.slice (some ⟨g,0,none⟩) k cap) (l.take k)∧Upd g w w':=by
 by_cases he:l.length=k
 ·subst he
  refine⟨w,?_,by simpa using h,Upd.refl_ _ _⟩
  rw[Nat.sub_self]
  cases Fk e.z (some ⟨g,0,none⟩) cap l.length <;> simp[Builtin.clear_,run_underlying ht]
 ·have hB:=(h.own g rfl).1
  obtain⟨z,hz2,hz3⟩:=hz' w
  rcases h.2 with⟨h',_⟩ | ⟨g',cap',cur,h',hb,hg,hnc,hcm,hcs,htake⟩
  ·cases h'
  ·cases h'
   have hc:¬cap=k:=by omega
   have ea:Fk e.z (some ⟨g,0,none⟩) cap k=some ⟨g,k*e.z,none⟩:=by unfold Fk;rw[if_neg hc];simp[Bz]
   obtain⟨m,hm⟩:∃ m,l.length - k=m+1:=⟨l.length - k - 1,by omega⟩
   have hzl:(Builtin.zeroCells zc (m+1)).toList.length=(m+1)*e.z:=by simp[size_zeroCells,hzs]
   have hkm:k+(m+1)=l.length:=by clear hcm;omega
   have hmul:k*e.z+(m+1)*e.z=l.length*e.z:=by rw[<-Nat.add_mul,hkm]
   have hcap:l.length*e.z<=cur.size:=by rw[hcs];exact Nat.mul_le_mul_right _ hnc
   have hfit:k*e.z+0+(Builtin.zeroCells zc (m+1)).toList.length<=cur.size:=by rw[hzl,Nat.add_zero,hmul];exact hcap
   have hone:∀ v∈(Builtin.zeroCells zc (m+1)).toList,v.oneCell'=true:=by
    intro v hv
    simp only[Builtin.zeroCells,Array.toList_map,List.mem_map] at hv
    obtain⟨i,_,rfl⟩:=hv
    have hi:i % zc.size<zc.size:=Nat.mod_lt _ (by omega)
    rw[getElem!_pos zc _ hi]
    exact hz1 _ (Array.getElem_mem hi)
   have hst:=run_storeCells_at Tryz.prog g (k*e.z) ty (Builtin.zeroCells zc (m+1)).toList 0 cur w hg hfit hone
   generalize hzs':(Builtin.zeroCells zc (m+1)).toList=zs at *
   refine⟨w.setRow g (cur.toList.take (k*e.z+0)++zs++cur.toList.drop (k*e.z+0+zs.length)).toArray,?_,?_,⟨rfl,rfl,rfl,Of _ _ _,fun k hk=>setRow_other _ _ _ _ hk⟩⟩
   ·rw[ea,hm]
    simp[Builtin.clear_,run_underlying ht,hz2,hz3,hzs',hst]
   ·have hhl:=setRow_heap w g cur (cur.toList.take (k*e.z+0)++zs++cur.toList.drop (k*e.z+0+zs.length)).toArray ty (0,0) hg
    have e1:(l.take k).length=k:=by rw[List.length_take];omega
    have h2:e.all l=e.all (l.take k)++e.all (l.drop k):=by rw[<-Enc.all_append,List.take_append_drop]
    have h3:cur.toList.take (k*e.z)=e.all (l.take k):=by
     have h4:cur.toList.take (k*e.z)=(cur.toList.take (l.length*e.z)).take (k*e.z):=by rw[List.take_take,Nat.min_eq_left (Nat.mul_le_mul_right _ hk)]
     rw[h4,htake,h2,List.take_append_of_le_length (by rw[Enc.all_length,e1];exact Nat.le_refl _),List.take_of_length_le (by rw[Enc.all_length,e1];exact Nat.le_refl _)]
    refine⟨Enc.all_length _,.inr ⟨g,cap,_,by rw[e1],hb,hhl,by omega,hcm,?_,?_⟩⟩
    ·have hfit':=hfit
     simp at hfit' ⊢
     omega
    ·rw[e1,Nat.add_zero,h3]
     simp only[List.append_assoc]
     rw[List.take_append_of_le_length (by rw[Enc.all_length,e1];exact Nat.le_refl _),List.take_of_length_le (by rw[Enc.all_length,e1];exact Nat.le_refl _)]
end
def Gm {α:Type} [DecidableEq α] (acc:List α) (d:α):List α:=if acc.getLast?=some d then acc else acc++[d]
def Cw {α:Type} [DecidableEq α] (l:List α):List α:=l.foldl Gm []
section
variable {α:Type} [DecidableEq α]
theorem Rz (l:List α) (d:α):Cw (l++[d])=Gm (Cw l) d:=by unfold Cw;rw[List.foldl_append];rfl
theorem Wp (acc:List α) (d:α):(Gm acc d).getLast?=some d:=by
 unfold Gm;split
 ·assumption
 ·simp
theorem Iz {l:List α} {j:Nat} {a b:α} (h1:l[j]?=some a) (h2:l[j+1]?=some b):Cw (l.take (j+1+1))=if b=a then Cw (l.take (j+1)) else Cw (l.take (j+1))++[b]:=by
 have e:(Cw (l.take (j+1))).getLast?=some a:=by rw[Cc h1,Rz,Wp]
 rw[Cc h2,Rz,Gm,e]
 by_cases h:b=a
 ·subst h;simp
 ·have h':¬a=b:=fun e=>h e.symm
  simp[h,h']
theorem Ks {l:List α} (h:l.length<=1):Cw l=l:=by
 match l,h with
 | [],_=>rfl
 | [a],_=>rfl
end
theorem Tq {α:Type} {l l':List α} {k j:Nat} (h:l'.drop k=l.drop k) (hj:k<=j):l'[j]?=l[j]?:=by
 have h1:(l'.drop k)[j - k]?=(l.drop k)[j - k]?:=by rw[h]
 rw[List.getElem?_drop,List.getElem?_drop,show k+(j - k)=j by omega] at h1
 exact h1
theorem Uc {α:Type} {e:Enc α} {ty:TypeId} {w:World} {B g n cap k:Nat} {l:List α} (h:Ag e ty w B (.slice (some ⟨g,0,none⟩) n cap) l) (hk:k<l.length):w.there g (k*e.z) e.z:=fun j hj=>by
 have hn:=h.lenEq
 subst hn
 have hz:j<(e.enc l[k]).length:=by rw[e.len];exact hj
 obtain⟨u,hu⟩:∃ u,(e.enc l[k])[j]?=some u:=⟨_,List.getElem?_eq_getElem hz⟩
 have h1:=World.ownsRow.cells (v:=.slice (some ⟨g,0,none⟩) l.length cap) h rfl _ _ (Enc.all_get l k l[k] (List.getElem?_eq_getElem hk) j u hu)
 rw[Bz,Nat.zero_add] at h1
 exact⟨by rw[h1];rfl,World.ownsRow.frozenAt h _⟩
theorem Amd {P:Program} {ops:Array Oper} {rest:List Oper} {a:Act} {w:World} {Q:Exit->Act->World->Prop} {ty t2:TypeId} {x y:Operand} {d:Option Tmp} {pos:String} {after:Array Edge} {g:Option (Nat×Bool)} {o:Nat} (J:Nat) (hx:a.eval x = .pointer (some ⟨o,J,none⟩)) (h:Az (wpList P ops Q (⟨d,.store ty x y,t2,pos,after,g⟩::rest) a w)):wpList P ops Q (⟨d,.store ty x y,t2,pos,after,g⟩::rest) a w:=(fun _=>h) hx
theorem Ar4 {a b:Av} {x y:Operand} {w:World} (r:Bool) (h:decide (a=b)=r):(eqGuard .eql 249 x y (Dh a) (Dh b)).run Tryz.prog w = .ok () w∧(Go.binOp .eql 249 (Dh a) (Dh b)).run Tryz.prog w = .ok (.bool r) w:=⟨by simp[go_sem],by rw[<-h];exact Nh a b w⟩
theorem Vw (a b:Av) (w:World):(binOp .neq 249 (Dh a) (Dh b)).run Tryz.prog w = .ok (.bool (!meq a b)) w:=by
 obtain⟨⟨a1,a2⟩,a3,a4⟩:=a
 obtain⟨⟨b1,b2⟩,b3,b4⟩:=b
 have e:meq ⟨(a1,a2),a3,a4⟩ ⟨(b1,b2),b3,b4⟩=(decide (a1=b1)&&(decide (a2=b2)&&(decide (a3=b3)&&decide (a4=b4)))):=by unfold meq;rw[Bool.eq_iff_iff];simp[and_assoc]
 rw[e]
 simp[go_sem]
 by_cases h1:a1=b1 <;> by_cases h2:a2=b2 <;> by_cases h3:a3=b3 <;> by_cases h4:a4=b4 <;> simp[h1,h2,h3,h4] <;> omega
theorem Atu {a b:Av} {x y:Operand} {w:World} {r s:Bool} (hs:(!r)=s) (h:decide (a=b)=r):(eqGuard .neq 249 x y (Dh a) (Dh b)).run Tryz.prog w = .ok () w∧(Go.binOp .neq 249 (Dh a) (Dh b)).run Tryz.prog w = .ok (.bool s) w:=⟨by simp[go_sem],by rw[<-hs,<-h];exact Vw a b w⟩
theorem ixM {w:World} {b o n c i:Nat} (h:i<n):(Instr.indexAt 244 (.slice (some ⟨b,o,none⟩) n c) (.int .i64 (i:Int))).run Tryz.prog w = .ok (.pointer (some ⟨b,o+i*4,none⟩)) w:=by simp[go_sem,h]
theorem ldM {w0 w:World} {b o:Nat} {x:Av} (hb:Below w0.heap.size w0 w) (h:∀ j u,(encM.enc x)[j]?=some u->w0.cell? ⟨b,o+j,none⟩=some u):(Instr.loadAt 249 (.pointer (some ⟨b,o,none⟩))).run Tryz.prog w = .ok (Dh x) w:=by
 have h0:=Ad hb (h 0 _ rfl);have h1:=Ad hb (h 1 _ rfl);have h2:=Ad hb (h 2 _ rfl);have h3:=Ad hb (h 3 _ rfl)
 simp only[Nat.add_zero] at h0
 simp[go_sem,h0,h1,h2,h3]
theorem Apa {w:World} {g n c k:Nat} (h:k<=n) (hc:n<=c):(Instr.sliceAt 244 (.slice (some ⟨g,0,none⟩) n c) (some (.int .i64 (k:Int))) none none).run Tryz.prog w = .ok (.slice (Fk 4 (some ⟨g,0,none⟩) c k) (n - k) (c - k)) w:=by
 have h1:(0:Int)<=(k:Int):=by omega
 have h2:(k:Int)<=(n:Int):=by omega
 have h3:(n:Int)<=(c:Int):=by omega
 unfold Fk
 simp[go_sem,h1,h2]
theorem Aup {w:World} {g n c k:Nat} (h:k<=c):(Instr.sliceAt 244 (.slice (some ⟨g,0,none⟩) n c) none (some (.int .i64 (k:Int))) none).run Tryz.prog w = .ok (.slice (some ⟨g,0,none⟩) k c) w:=by
 have h1:(0:Int)<=(k:Int):=by omega
 have h2:(k:Int)<=(c:Int):=by omega
 simp[go_sem,h1,h2]
def Ast (B:Nat) (v0:Value) (l:List Av) (w:World) (e:Ending) (w':World):Prop:=∃ v,e = .returned v∧Below B w w'∧Ag encM 249 w' B v l∧An w.heap.size v0.ownBlock w w'∧v.ownBlock=v0.ownBlock
def Aui (w:World) (n:Nat) (l:List Av) (i:Value) (wr:World):Prop:=
 ∃ k:Nat,i = .int .i64 k∧1<=k∧k<=n∧Below w.heap.size w wr∧Cw (l.take k)=l.take k
def Aty (B:Nat) (v:Value) (w:World) (n k0:Nat) (l:List Av) (i j:Value) (wr:World):Prop:=
 ∃ (k m:Nat) (l':List Av),i = .int .i64 k∧j = .int .i64 m∧1<=m∧1<=k∧k<k0+m∧k0+m<=n∧An w.heap.size v.ownBlock w wr∧Ag encM 249 wr B v l'∧l'.length=l.length∧l'.drop k=l.drop k∧l'.take k=Cw (l.take (k0+m))
theorem Vi (B g cap:Nat) (l:List Av) (w:World) (h:Ag encM 249 w B (.slice (some ⟨g,0,none⟩) l.length cap) l) (hs:Small l.length) (h2:2<=l.length) :
  Calls Tryz.prog 354 #[.slice (some ⟨g,0,none⟩) l.length cap] w (Ast B (.slice (some ⟨g,0,none⟩) l.length cap) (Cw l) w):=by
 obtain⟨A,c,eA,hd⟩:=Ag.sl h
 obtain⟨rfl,rfl⟩:A=some ⟨g,0,none⟩∧c=cap:=by cases eA;exact⟨rfl,rfl⟩
 clear eA
 have hcap:=hd.cap
 have hmx:=hd.big
 have hB:B<=g:=(h.own g rfl).1
 have hgz:g<w.heap.size:=(h.own g rfl).2
 have hs9:=hs.out
 obtain⟨n,hn⟩:∃ n,n=l.length:=⟨_,rfl⟩
 rw[<-hn] at hs h2 hcap hmx hd h hs9 ⊢
 have HD:=Avp hd;have HN:=Avp hn;have H:=Avp h
 clear hd hn h
 go_enter Tryz.func354,Tryz.ntmps354
 go_wp2
 go_loopw [3] (fun i wr=>Aui w n l i wr) (fun i _=>n - (intOf i).toNat)
 case atStart=>exact⟨1,rfl,Nat.le_refl _,by omega,Below.refl _ _,Ks (by rw[List.length_take];omega)⟩
 case round=>
  obtain⟨k,rfl,hk1,hk,hb,hc⟩:=hrel
  have HC:=Avp hc;clear hc
  by_cases hlt:k<n
  ·obtain⟨b,o,x,e,hbk,e1,d1,c1⟩:=(HD.out.mono hb).at_ (i:=k) hlt
   obtain⟨rfl,rfl⟩:g=b∧0=o:=by simpa using e
   obtain⟨b',o',y,e',hbk',e2,d2,c2⟩:=(HD.out.mono hb).at_ (i:=k - 1) (by omega)
   obtain⟨rfl,rfl⟩:g=b'∧0=o':=by simpa using e'
   obtain⟨j,rfl⟩:∃ j,k=j+1:=⟨k - 1,by omega⟩
   simp only[Nat.add_sub_cancel] at e2 d2 c2
   have hst:=Iz e2 e1
   have C1:=Avp c1;have C2:=Avp c2;have ST:=Avp hst;have E1:=Avp e1;have E2:=Avp e2
   clear c1 c2 hst e1 e2 d1 d2 e e'
   have hj9:j+1<=9223372036854775807:=by omega
   cases hq:decide (x=y) with
   | false=>
    have HQ:=Avp hq;clear hq
    go_wp2_with fail
    refine Am mixed (by kernel_rfl) ?_
    refine Ab.step (Ob.move Aa.free Has.oldIs) ?_
    refine Ab.step (Ob.move Aa.free Has.oldIs) ?_
    refine Ab.step (Ob.indexV Aa.free (Has.new 0 1) (Has.new 1 0) (fun w1=>ixM hlt)) ?_
    refine Ab.step (Ob.loadV Aa.free (Has.new 2 0) (fun w1 hb1=>ldM hb1 C1.out)) ?_
    refine Ab.step (Ob.move Aa.free Has.oldIs) ?_
    refine Ab.step (Ob.move Aa.free Has.oldIs) ?_
    refine Ab.step (Ob.binV Aa.free (Has.new 5 0) (Has.cst _) (fun w1=>D9 hj9)) ?_
    refine Ab.step (Ob.indexV Aa.free (Has.new 4 2) (Has.new 6 0) (fun w1=>ixM (by omega))) ?_
    refine Ab.step (Ob.loadV Aa.free (Has.new 7 0) (fun w1 hb1=>ldM hb1 C2.out)) ?_
    refine Ab.step (Ob.binV Aa.free (Has.new 3 5) (Has.new 8 0) (fun w1=>Ar4 false HQ.out)) ?_
    simp only[Ab,Ao,List.map,Bq,List.reverse_cons,List.reverse_nil,List.nil_append,List.cons_append]
    intro wE hE
    iterate 10 (rintro _ rfl)
    simp only[Act.put,List.setIfInBounds_toArray,List.set_cons_zero,List.set_cons_succ]
    go_wp2
    go_roundw
    case rel=>exact⟨j+1+1,by simp,by omega,hlt,hb.le hE,by rw[ST.out,if_neg (of_decide_eq_false HQ.out),HC.out,Cc E1.out]⟩
    case measure=>simp[intOf];omega
   | true=>
    have HQ:=Avp hq;clear hq
    go_wp2_with fail
    refine Am mixed (by kernel_rfl) ?_
    refine Ab.step (Ob.move Aa.free Has.oldIs) ?_
    refine Ab.step (Ob.move Aa.free Has.oldIs) ?_
    refine Ab.step (Ob.indexV Aa.free (Has.new 0 1) (Has.new 1 0) (fun w1=>ixM hlt)) ?_
    refine Ab.step (Ob.loadV Aa.free (Has.new 2 0) (fun w1 hb1=>ldM hb1 C1.out)) ?_
    refine Ab.step (Ob.move Aa.free Has.oldIs) ?_
    refine Ab.step (Ob.move Aa.free Has.oldIs) ?_
    refine Ab.step (Ob.binV Aa.free (Has.new 5 0) (Has.cst _) (fun w1=>D9 hj9)) ?_
    refine Ab.step (Ob.indexV Aa.free (Has.new 4 2) (Has.new 6 0) (fun w1=>ixM (by omega))) ?_
    refine Ab.step (Ob.loadV Aa.free (Has.new 7 0) (fun w1 hb1=>ldM hb1 C2.out)) ?_
    refine Ab.step (Ob.binV Aa.free (Has.new 3 5) (Has.new 8 0) (fun w1=>Ar4 true HQ.out)) ?_
    simp only[Ab,Ao,List.map,Bq,List.reverse_cons,List.reverse_nil,List.nil_append,List.cons_append]
    intro wE hE
    iterate 10 (rintro _ rfl)
    simp only[Act.put,List.setIfInBounds_toArray,List.set_cons_zero,List.set_cons_succ]
    have hrow:=(H.out.mono hb).mono hE
    have hbel:=hb.le hE
    have hsl:=fun w=>Apa (w:=w) (g:=g) (n:=n) (c:=c) (k:=j+1) (Nat.le_of_lt hlt) hcap
    have hcut:Fk 4 (some ⟨g,0,none⟩) c (j+1)=some ⟨g,(j+1)*4,none⟩:=by unfold Fk;rw[if_neg (by omega)];simp[Bz]
    have hst:Cw (l.take (j+1+1))=l.take (j+1):=by rw[ST.out,if_pos (of_decide_eq_true HQ.out),HC.out]
    have HROW:=Avp hrow;have HBEL:=Avp hbel;have HST:=Avp hst;have HCUT:=Avp hcut
    clear hrow hbel hst hE hb
    rw[hcut] at hsl
    clear hcut C1 C2 HQ ST HC E1 E2
    generalize wE=W at *
    go_wp2
    go_loopw [3,5] (fun i m w2=>Aty B (.slice (some ⟨g,0,none⟩) n c) W n (j+1) l i m w2) (fun _ m _=>n - (intOf m).toNat)
    case atStart=>exact⟨j+1,1,l,rfl,rfl,Nat.le_refl _,by omega,by omega,by omega,An.refl_ _ _ _,HROW.out,rfl,rfl,HST.out.symm⟩
    case round=>
     obtain⟨k,m,l',rfl,rfl,hm1,hk1,hkm,hmn,hb,hr,hl',hdr,htk⟩:=hrel
     have HR:=Avp hr;have HDR:=Avp hdr;have HTK:=Avp htk;have HB2:=Avp hb;have HL':=Avp hl'
     have hd':Sl encM wr (some ⟨g,0,none⟩) n c l':=by
      obtain⟨A,c',e,hd'⟩:=Ag.sl hr
      cases e;rw[hl',<-HN.out] at hd';exact hd'
     have HDS:=Avp hd'
     clear hr hdr htk hb hl' hd'
     by_cases hlm:m<n - (j+1)
     ·obtain⟨b,o,x,e,hbk,e1,d1,c1⟩:=HDS.out.at_ (i:=j+1+m) (by omega)
      obtain⟨rfl,rfl⟩:g=b∧0=o:=by simpa using e
      obtain⟨m',rfl⟩:∃ m',m=m'+1:=⟨m - 1,by omega⟩
      obtain⟨b',o',y,e',hbk',e2,d2,c2⟩:=HDS.out.at_ (i:=j+1+m') (by omega)
      obtain⟨rfl,rfl⟩:g=b'∧0=o':=by simpa using e'
      rw[Tq HDR.out (by omega)] at e1 e2
      have hst:Cw (l.take (j+1+(m'+1+1)))=if x=y then Cw (l.take (j+1+(m'+1))) else Cw (l.take (j+1+(m'+1)))++[x]:=Iz (j:=j+1+m') e2 (by simpa [Nat.add_assoc] using e1)
      have hm9:m'+1<=9223372036854775807:=by omega
      have ea:∀ i,(j+1)*4+i*4=0+(j+1+i)*4:=fun i=>by omega
      have C1:=Avp (show ∀ i u,(encM.enc x)[i]?=some u->wr.cell? ⟨g,(j+1)*4+(m'+1)*4+i,none⟩=some u by rw[ea];exact c1)
      have C2:=Avp (show ∀ i u,(encM.enc y)[i]?=some u->wr.cell? ⟨g,(j+1)*4+m'*4+i,none⟩=some u by rw[ea];exact c2)
      have ST:=Avp hst
      clear c1 c2 hst e1 e2 d1 d2 e e' hsl ea
      cases hq:decide (x=y) with
      | true=>
       have HQ:=Avp hq;clear hq
       go_wp2_with fail
       refine Am mixed (by kernel_rfl) ?_
       refine Ab.step (Ob.move Aa.free Has.oldIs) ?_
       refine Ab.step (Ob.move Aa.free Has.oldIs) ?_
       refine Ab.step (Ob.indexV Aa.free (Has.new 0 1) (Has.new 1 0) (fun w1=>ixM hlm)) ?_
       refine Ab.step (Ob.loadV Aa.free (Has.new 2 0) (fun w1 hb1=>ldM hb1 C1.out)) ?_
       refine Ab.step (Ob.move Aa.free Has.oldIs) ?_
       refine Ab.step (Ob.move Aa.free Has.oldIs) ?_
       refine Ab.step (Ob.binV Aa.free (Has.new 5 0) (Has.cst _) (fun w1=>D9 hm9)) ?_
       refine Ab.step (Ob.indexV Aa.free (Has.new 4 2) (Has.new 6 0) (fun w1=>ixM (by omega))) ?_
       refine Ab.step (Ob.loadV Aa.free (Has.new 7 0) (fun w1 hb1=>ldM hb1 C2.out)) ?_
       refine Ab.step (Ob.binV Aa.free (Has.new 3 5) (Has.new 8 0) (fun w1=>Atu (s:=false) rfl HQ.out)) ?_
       simp only[Ab,Ao,List.map,Bq,List.reverse_cons,List.reverse_nil,List.nil_append,List.cons_append]
       intro wE hE
       iterate 10 (rintro _ rfl)
       simp only[Act.put,List.setIfInBounds_toArray,List.set_cons_zero,List.set_cons_succ]
       go_wp2
       go_roundw
       case rel=>exact⟨k,m'+1+1,l',rfl,by simp,by omega,hk1,by omega,by omega,HB2.out.le (hE.mono HB2.out.size),HR.out.mono hE,HL'.out,HDR.out,by rw[ST.out,if_pos (of_decide_eq_true HQ.out)];exact HTK.out⟩
       case measure=>simp[intOf];omega
      | false=>
       have HQ:=Avp hq;clear hq
       go_wp2_with fail
       refine Am mixed (by kernel_rfl) ?_
       refine Ab.step (Ob.move Aa.free Has.oldIs) ?_
       refine Ab.step (Ob.move Aa.free Has.oldIs) ?_
       refine Ab.step (Ob.indexV Aa.free (Has.new 0 1) (Has.new 1 0) (fun w1=>ixM hlm)) ?_
       refine Ab.step (Ob.loadV Aa.free (Has.new 2 0) (fun w1 hb1=>ldM hb1 C1.out)) ?_
       refine Ab.step (Ob.move Aa.free Has.oldIs) ?_
       refine Ab.step (Ob.move Aa.free Has.oldIs) ?_
       refine Ab.step (Ob.binV Aa.free (Has.new 5 0) (Has.cst _) (fun w1=>D9 hm9)) ?_
       refine Ab.step (Ob.indexV Aa.free (Has.new 4 2) (Has.new 6 0) (fun w1=>ixM (by omega))) ?_
       refine Ab.step (Ob.loadV Aa.free (Has.new 7 0) (fun w1 hb1=>ldM hb1 C2.out)) ?_
       refine Ab.step (Ob.binV Aa.free (Has.new 3 5) (Has.new 8 0) (fun w1=>Atu (s:=true) rfl HQ.out)) ?_
       simp only[Ab,Ao,List.map,Bq,List.reverse_cons,List.reverse_nil,List.nil_append,List.cons_append]
       intro wE hE
       iterate 10 (rintro _ rfl)
       simp only[Act.put,List.setIfInBounds_toArray,List.set_cons_zero,List.set_cons_succ]
       have hrE:=HR.out.mono hE
       have hkl:k<l'.length:=by rw[HL'.out,<-HN.out];omega
       have ix:=fun w=>(ixM (w:=w) (b:=g) (o:=(j+1)*4) (n:=n - (j+1)) (c:=c - (j+1)) hlm)
       have ix2:=fun w=>(ixM (w:=w) (b:=g) (o:=0) (n:=n) (c:=c) (i:=k) (by omega))
       have l0:wE.cell? ⟨g,(j+1)*4+(m'+1)*4,none⟩=some (.int .i64 x.d.1):=Ad hE (C1.out 0 _ rfl)
       have l1:wE.cell? ⟨g,(j+1)*4+(m'+1)*4+1,none⟩=some (.int .i64 x.d.2):=Ad hE (C1.out 1 _ rfl)
       have l2:wE.cell? ⟨g,(j+1)*4+(m'+1)*4+2,none⟩=some (.int .i64 x.q):=Ad hE (C1.out 2 _ rfl)
       have l3:wE.cell? ⟨g,(j+1)*4+(m'+1)*4+3,none⟩=some (.int .u64 x.t):=Ad hE (C1.out 3 _ rfl)
       have HE:=Avp hE;have HKL:=Avp hkl
       simp only[Nat.zero_add] at ix2 ix
       clear C1 C2
       have hth:wE.there g (k*4) 4:=Uc hrE hkl
       clear hE
       go_wp2_with ((with_reducible refine Amd (o:=g) (k*4) ?_ ?_);(next=>rfl))
       unfold Az
       refine wpList_store_mid rfl _ _ _ rfl g (k*4) (Fj x) rfl rfl hth (show(Tryz.prog.info? 249).map (·.size)=some 4 by kernel_rfl) (by simp[Value.oneCell']) ?_
       clear hth
       change wpList _ _ _ [] (Act.mk _ _) _
       generalize hW9:wE.setCells g (k*4) (Fj x).toList=w9
       have HP:=Avp (show Ag encM 249 w9 B (.slice (some ⟨g,0,none⟩) n c) (l'.set k x)∧Upd g wE w9 by rw[<-hW9];exact hrE.setEl hkl x)
       clear hW9 hrE
       have hkn:k<n:=by omega
       clear hkl
       go_wp2
       clear ix ix2 l0 l1 l2 l3
       go_roundw
       case rel=>
        refine⟨k+1,m'+1+1,l'.set k x,by simp,by simp,by omega,by omega,by omega,by omega,An.updO (HB2.out.le (HE.out.mono HB2.out.size)) HP.out.2,HP.out.1,by rw[List.length_set];exact HL'.out,?_,?_⟩
        ·rw[List.drop_set_of_lt (by omega),<-List.drop_drop,HDR.out,List.drop_drop]
        ·have hset:(l'.set k x)[k]?=some x:=by rw[List.getElem?_set_self HKL.out]
         rw[Cc hset,List.take_set_of_le (Nat.le_refl _),HTK.out,ST.out,if_neg (of_decide_eq_false HQ.out)]
       case measure=>simp[intOf];omega
     ·have hfin:l'.take k=Cw l:=by
       have h9:l.take (j+1+m)=l:=List.take_of_length_le (by rw[<-HN.out];omega)
       have:=HTK.out
       rw[h9] at this
       exact this
      have hR':Ag encM 249 wr B (.slice (some ⟨g,0,none⟩) l'.length c) l':=by rw[HL'.out,<-HN.out];exact HR.out
      have hsl2:=fun w=>Apa (w:=w) (g:=g) (n:=n) (c:=c) (k:=k) (by omega) hcap
      have hsl3:=fun w=>Aup (w:=w) (g:=g) (n:=n) (c:=c) (k:=k) (by omega)
      have hcl:=fun ty=>Ld (zc:=Ul) Tryz.underlying244 (fun w=>⟨.agg Ul,by simp[go_sem],rfl⟩) rfl (by simp[Value.oneCell']) (by decide) hR' (k:=k) (by rw[HL'.out,<-HN.out];omega) ty
      rw[HL'.out,<-HN.out] at hcl
      obtain⟨w',hc1,hc2,hc3⟩:=hcl 0
      have hc4:∀ ty,(Builtin.clear_ #[244] ty #[.slice (Fk 4 (some ⟨g,0,none⟩) c k) (n - k) (c - k)]).run Tryz.prog wr = .ok (.tuple #[]) w':=fun ty=>hc1
      have R2:=Avp hc2;have R3:=Avp hc3;have FIN:=Avp hfin
      generalize Fk 4 (some ⟨g,0,none⟩) c k=Z at *
      clear hcl hc1 hc2 hc3 hR' hfin hsl
      go_wp2
      go_ret
      have wfin:=An.from_ HBEL.out (An.updO HB2.out R3.out) HBEL.out.size
      exact⟨_,rfl,wfin.belowO hB (by omega),by rw[<-FIN.out];exact R2.out,wfin,rfl⟩
  ·have e:Cw l=l:=by have:=HC.out;rwa [List.take_of_length_le (by rw[<-HN.out];omega)] at this
   have E:=Avp e;clear e
   go_wp2
   go_ret
   exact⟨_,rfl,hb.mono (by omega),by rw[E.out];exact H.out.mono hb,An.from_ hb (An.refl_ _ _ _) hb.size,rfl⟩
theorem Aj9 (B:Nat) (v:Value) (l:List Av) (w:World) (h:Ag encM 249 w B v l) (hs:Small l.length) :
  Calls Tryz.prog 354 #[v] w (Ast B v (Cw l) w):=by
 by_cases h2:2<=l.length
 ·rcases h.2 with⟨rfl,h0⟩ | ⟨g,cap,cur,rfl,_⟩
  ·omega
  ·exact Vi B g cap l w h hs h2
 ·obtain⟨A,c,rfl,hd⟩:=Ag.sl h
  have e:=Ks (l:=l) (by omega)
  have H:=Avp h;have E:=Avp e
  have h3:((l.length:Nat):Int)<2:=by omega
  clear h e hd
  go_enter Tryz.func354,Tryz.ntmps354
  go_wp2
  go_ret
  exact⟨_,rfl,Below.refl _ _,by rw[E.out];exact H.out,An.refl_ _ _ _,rfl⟩
theorem Aua {a b:List UInt8} {x y:Operand} {w:World} (r:Bool) (h:decide (a=b)=r):(eqGuard .eql 9 x y (Ac a) (Ac b)).run Tryz.prog w = .ok () w∧(Go.binOp .eql 9 (Ac a) (Ac b)).run Tryz.prog w = .ok (.bool r) w:=⟨by simp[eqGuard,go_sem],by rw[<-h,show decide (a=b)=(a==b) by rw[Bool.eq_iff_iff];simp];simp[go_sem]⟩
theorem At9 {a b:List UInt8} {x y:Operand} {w:World} {r s:Bool} (hs:(!r)=s) (h:decide (a=b)=r):(eqGuard .neq 9 x y (Ac a) (Ac b)).run Tryz.prog w = .ok () w∧(Go.binOp .neq 9 (Ac a) (Ac b)).run Tryz.prog w = .ok (.bool s) w:=⟨by simp[eqGuard,go_sem],by rw[<-hs,<-h,show decide (a=b)=(a==b) by rw[Bool.eq_iff_iff];simp];simp[go_sem]⟩
theorem ixS {w:World} {b o n c i:Nat} (h:i<n):(Instr.indexAt 67 (.slice (some ⟨b,o,none⟩) n c) (.int .i64 (i:Int))).run Tryz.prog w = .ok (.pointer (some ⟨b,o+i*1,none⟩)) w:=by simp[go_sem,h]
theorem ldS {w0 w:World} {b o:Nat} {x:List UInt8} (hb:Below w0.heap.size w0 w) (h:∀ j u,(encS.enc x)[j]?=some u->w0.cell? ⟨b,o+j,none⟩=some u):(Instr.loadAt 9 (.pointer (some ⟨b,o,none⟩))).run Tryz.prog w = .ok (Ac x) w:=by
 have h0:=Ad hb (h 0 _ rfl)
 simp only[Nat.add_zero] at h0
 simp[go_sem,h0]
theorem Apt {w:World} {g n c k:Nat} (h:k<=n) (hc:n<=c):(Instr.sliceAt 67 (.slice (some ⟨g,0,none⟩) n c) (some (.int .i64 (k:Int))) none none).run Tryz.prog w = .ok (.slice (Fk 1 (some ⟨g,0,none⟩) c k) (n - k) (c - k)) w:=by
 have h1:(0:Int)<=(k:Int):=by omega
 have h2:(k:Int)<=(n:Int):=by omega
 have h3:(n:Int)<=(c:Int):=by omega
 unfold Fk
 simp[go_sem,h1,h2]
theorem Auy {w:World} {g n c k:Nat} (h:k<=c):(Instr.sliceAt 67 (.slice (some ⟨g,0,none⟩) n c) none (some (.int .i64 (k:Int))) none).run Tryz.prog w = .ok (.slice (some ⟨g,0,none⟩) k c) w:=by
 have h1:(0:Int)<=(k:Int):=by omega
 have h2:(k:Int)<=(c:Int):=by omega
 simp[go_sem,h1,h2]
def Atb (B:Nat) (v0:Value) (l:List (List UInt8)) (w:World) (e:Ending) (w':World):Prop:=∃ v,e = .returned v∧Below B w w'∧Ag encS 9 w' B v l∧An w.heap.size v0.ownBlock w w'∧v.ownBlock=v0.ownBlock
def As1 (w:World) (n:Nat) (l:List (List UInt8)) (i:Value) (wr:World):Prop:=
 ∃ k:Nat,i = .int .i64 k∧1<=k∧k<=n∧Below w.heap.size w wr∧Cw (l.take k)=l.take k
def At8 (B:Nat) (v:Value) (w:World) (n k0:Nat) (l:List (List UInt8)) (i j:Value) (wr:World):Prop:=
 ∃ (k m:Nat) (l':List (List UInt8)),i = .int .i64 k∧j = .int .i64 m∧1<=m∧1<=k∧k<k0+m∧k0+m<=n∧An w.heap.size v.ownBlock w wr∧Ag encS 9 wr B v l'∧l'.length=l.length∧l'.drop k=l.drop k∧l'.take k=Cw (l.take (k0+m))
theorem Wc (B g cap:Nat) (l:List (List UInt8)) (w:World) (h:Ag encS 9 w B (.slice (some ⟨g,0,none⟩) l.length cap) l) (hs:Small l.length) (h2:2<=l.length) :
  Calls Tryz.prog 270 #[.slice (some ⟨g,0,none⟩) l.length cap] w (Atb B (.slice (some ⟨g,0,none⟩) l.length cap) (Cw l) w):=by
 obtain⟨A,c,eA,hd⟩:=Ag.sl h
 obtain⟨rfl,rfl⟩:A=some ⟨g,0,none⟩∧c=cap:=by cases eA;exact⟨rfl,rfl⟩
 clear eA
 have hcap:=hd.cap
 have hmx:=hd.big
 have hB:B<=g:=(h.own g rfl).1
 have hgz:g<w.heap.size:=(h.own g rfl).2
 have hs9:=hs.out
 obtain⟨n,hn⟩:∃ n,n=l.length:=⟨_,rfl⟩
 rw[<-hn] at hs h2 hcap hmx hd h hs9 ⊢
 have HD:=Avp hd;have HN:=Avp hn;have H:=Avp h
 clear hd hn h
 go_enter Tryz.func270,Tryz.ntmps270
 go_wp2
 go_loopw [3] (fun i wr=>As1 w n l i wr) (fun i _=>n - (intOf i).toNat)
 case atStart=>exact⟨1,rfl,Nat.le_refl _,by omega,Below.refl _ _,Ks (by rw[List.length_take];omega)⟩
 case round=>
  obtain⟨k,rfl,hk1,hk,hb,hc⟩:=hrel
  have HC:=Avp hc;clear hc
  by_cases hlt:k<n
  ·obtain⟨b,o,x,e,hbk,e1,d1,c1⟩:=(HD.out.mono hb).at_ (i:=k) hlt
   obtain⟨rfl,rfl⟩:g=b∧0=o:=by simpa using e
   obtain⟨b',o',y,e',hbk',e2,d2,c2⟩:=(HD.out.mono hb).at_ (i:=k - 1) (by omega)
   obtain⟨rfl,rfl⟩:g=b'∧0=o':=by simpa using e'
   obtain⟨j,rfl⟩:∃ j,k=j+1:=⟨k - 1,by omega⟩
   simp only[Nat.add_sub_cancel] at e2 d2 c2
   have hst:=Iz e2 e1
   have C1:=Avp c1;have C2:=Avp c2;have ST:=Avp hst;have E1:=Avp e1;have E2:=Avp e2
   clear c1 c2 hst e1 e2 d1 d2 e e'
   have hj9:j+1<=9223372036854775807:=by omega
   cases hq:decide (x=y) with
   | false=>
    have HQ:=Avp hq;clear hq
    go_wp2_with fail
    refine Am mixed (by kernel_rfl) ?_
    refine Ab.step (Ob.move Aa.free Has.oldIs) ?_
    refine Ab.step (Ob.move Aa.free Has.oldIs) ?_
    refine Ab.step (Ob.indexV Aa.free (Has.new 0 1) (Has.new 1 0) (fun w1=>ixS hlt)) ?_
    refine Ab.step (Ob.loadV Aa.free (Has.new 2 0) (fun w1 hb1=>ldS hb1 C1.out)) ?_
    refine Ab.step (Ob.move Aa.free Has.oldIs) ?_
    refine Ab.step (Ob.move Aa.free Has.oldIs) ?_
    refine Ab.step (Ob.binV Aa.free (Has.new 5 0) (Has.cst _) (fun w1=>D9 hj9)) ?_
    refine Ab.step (Ob.indexV Aa.free (Has.new 4 2) (Has.new 6 0) (fun w1=>ixS (by omega))) ?_
    refine Ab.step (Ob.loadV Aa.free (Has.new 7 0) (fun w1 hb1=>ldS hb1 C2.out)) ?_
    refine Ab.step (Ob.binV Aa.free (Has.new 3 5) (Has.new 8 0) (fun w1=>Aua false HQ.out)) ?_
    simp only[Ab,Ao,List.map,Bq,List.reverse_cons,List.reverse_nil,List.nil_append,List.cons_append]
    intro wE hE
    iterate 10 (rintro _ rfl)
    simp only[Act.put,List.setIfInBounds_toArray,List.set_cons_zero,List.set_cons_succ]
    go_wp2
    go_roundw
    case rel=>exact⟨j+1+1,by simp,by omega,hlt,hb.le hE,by rw[ST.out,if_neg (of_decide_eq_false HQ.out),HC.out,Cc E1.out]⟩
    case measure=>simp[intOf];omega
   | true=>
    have HQ:=Avp hq;clear hq
    go_wp2_with fail
    refine Am mixed (by kernel_rfl) ?_
    refine Ab.step (Ob.move Aa.free Has.oldIs) ?_
    refine Ab.step (Ob.move Aa.free Has.oldIs) ?_
    refine Ab.step (Ob.indexV Aa.free (Has.new 0 1) (Has.new 1 0) (fun w1=>ixS hlt)) ?_
    refine Ab.step (Ob.loadV Aa.free (Has.new 2 0) (fun w1 hb1=>ldS hb1 C1.out)) ?_
    refine Ab.step (Ob.move Aa.free Has.oldIs) ?_
    refine Ab.step (Ob.move Aa.free Has.oldIs) ?_
    refine Ab.step (Ob.binV Aa.free (Has.new 5 0) (Has.cst _) (fun w1=>D9 hj9)) ?_
    refine Ab.step (Ob.indexV Aa.free (Has.new 4 2) (Has.new 6 0) (fun w1=>ixS (by omega))) ?_
    refine Ab.step (Ob.loadV Aa.free (Has.new 7 0) (fun w1 hb1=>ldS hb1 C2.out)) ?_
    refine Ab.step (Ob.binV Aa.free (Has.new 3 5) (Has.new 8 0) (fun w1=>Aua true HQ.out)) ?_
    simp only[Ab,Ao,List.map,Bq,List.reverse_cons,List.reverse_nil,List.nil_append,List.cons_append]
    intro wE hE
    iterate 10 (rintro _ rfl)
    simp only[Act.put,List.setIfInBounds_toArray,List.set_cons_zero,List.set_cons_succ]
    have hrow:=(H.out.mono hb).mono hE
    have hbel:=hb.le hE
    have hsl:=fun w=>Apt (w:=w) (g:=g) (n:=n) (c:=c) (k:=j+1) (Nat.le_of_lt hlt) hcap
    have hcut:Fk 1 (some ⟨g,0,none⟩) c (j+1)=some ⟨g,(j+1)*1,none⟩:=by unfold Fk;rw[if_neg (by omega)];simp[Bz]
    have hst:Cw (l.take (j+1+1))=l.take (j+1):=by rw[ST.out,if_pos (of_decide_eq_true HQ.out),HC.out]
    have HROW:=Avp hrow;have HBEL:=Avp hbel;have HST:=Avp hst;have HCUT:=Avp hcut
    clear hrow hbel hst hE hb
    rw[hcut] at hsl
    clear hcut C1 C2 HQ ST HC E1 E2
    generalize wE=W at *
    go_wp2
    go_loopw [3,5] (fun i m w2=>At8 B (.slice (some ⟨g,0,none⟩) n c) W n (j+1) l i m w2) (fun _ m _=>n - (intOf m).toNat)
    case atStart=>exact⟨j+1,1,l,rfl,rfl,Nat.le_refl _,by omega,by omega,by omega,An.refl_ _ _ _,HROW.out,rfl,rfl,HST.out.symm⟩
    case round=>
     obtain⟨k,m,l',rfl,rfl,hm1,hk1,hkm,hmn,hb,hr,hl',hdr,htk⟩:=hrel
     have HR:=Avp hr;have HDR:=Avp hdr;have HTK:=Avp htk;have HB2:=Avp hb;have HL':=Avp hl'
     have hd':Sl encS wr (some ⟨g,0,none⟩) n c l':=by
      obtain⟨A,c',e,hd'⟩:=Ag.sl hr
      cases e;rw[hl',<-HN.out] at hd';exact hd'
     have HDS:=Avp hd'
     clear hr hdr htk hb hl' hd'
     by_cases hlm:m<n - (j+1)
     ·obtain⟨b,o,x,e,hbk,e1,d1,c1⟩:=HDS.out.at_ (i:=j+1+m) (by omega)
      obtain⟨rfl,rfl⟩:g=b∧0=o:=by simpa using e
      obtain⟨m',rfl⟩:∃ m',m=m'+1:=⟨m - 1,by omega⟩
      obtain⟨b',o',y,e',hbk',e2,d2,c2⟩:=HDS.out.at_ (i:=j+1+m') (by omega)
      obtain⟨rfl,rfl⟩:g=b'∧0=o':=by simpa using e'
      rw[Tq HDR.out (by omega)] at e1 e2
      have hst:Cw (l.take (j+1+(m'+1+1)))=if x=y then Cw (l.take (j+1+(m'+1))) else Cw (l.take (j+1+(m'+1)))++[x]:=Iz (j:=j+1+m') e2 (by simpa [Nat.add_assoc] using e1)
      have hm9:m'+1<=9223372036854775807:=by omega
      have ea:∀ i,j+1+i*1=0+(j+1+i)*1:=fun i=>by omega
      have C1:=Avp (show ∀ i u,(encS.enc x)[i]?=some u->wr.cell? ⟨g,j+1+(m'+1)*1+i,none⟩=some u by rw[ea];exact c1)
      have C2:=Avp (show ∀ i u,(encS.enc y)[i]?=some u->wr.cell? ⟨g,j+1+m'*1+i,none⟩=some u by rw[ea];exact c2)
      have ST:=Avp hst
      clear c1 c2 hst e1 e2 d1 d2 e e' hsl ea
      cases hq:decide (x=y) with
      | true=>
       have HQ:=Avp hq;clear hq
       go_wp2_with fail
       refine Am mixed (by kernel_rfl) ?_
       refine Ab.step (Ob.move Aa.free Has.oldIs) ?_
       refine Ab.step (Ob.move Aa.free Has.oldIs) ?_
       refine Ab.step (Ob.indexV Aa.free (Has.new 0 1) (Has.new 1 0) (fun w1=>ixS hlm)) ?_
       refine Ab.step (Ob.loadV Aa.free (Has.new 2 0) (fun w1 hb1=>ldS hb1 C1.out)) ?_
       refine Ab.step (Ob.move Aa.free Has.oldIs) ?_
       refine Ab.step (Ob.move Aa.free Has.oldIs) ?_
       refine Ab.step (Ob.binV Aa.free (Has.new 5 0) (Has.cst _) (fun w1=>D9 hm9)) ?_
       refine Ab.step (Ob.indexV Aa.free (Has.new 4 2) (Has.new 6 0) (fun w1=>ixS (by omega))) ?_
       refine Ab.step (Ob.loadV Aa.free (Has.new 7 0) (fun w1 hb1=>ldS hb1 C2.out)) ?_
       refine Ab.step (Ob.binV Aa.free (Has.new 3 5) (Has.new 8 0) (fun w1=>At9 (s:=false) rfl HQ.out)) ?_
       simp only[Ab,Ao,List.map,Bq,List.reverse_cons,List.reverse_nil,List.nil_append,List.cons_append]
       intro wE hE
       iterate 10 (rintro _ rfl)
       simp only[Act.put,List.setIfInBounds_toArray,List.set_cons_zero,List.set_cons_succ]
       go_wp2
       go_roundw
       case rel=>exact⟨k,m'+1+1,l',rfl,by simp,by omega,hk1,by omega,by omega,HB2.out.le (hE.mono HB2.out.size),HR.out.mono hE,HL'.out,HDR.out,by rw[ST.out,if_pos (of_decide_eq_true HQ.out)];exact HTK.out⟩
       case measure=>simp[intOf];omega
      | false=>
       have HQ:=Avp hq;clear hq
       go_wp2_with fail
       refine Am mixed (by kernel_rfl) ?_
       refine Ab.step (Ob.move Aa.free Has.oldIs) ?_
       refine Ab.step (Ob.move Aa.free Has.oldIs) ?_
       refine Ab.step (Ob.indexV Aa.free (Has.new 0 1) (Has.new 1 0) (fun w1=>ixS hlm)) ?_
       refine Ab.step (Ob.loadV Aa.free (Has.new 2 0) (fun w1 hb1=>ldS hb1 C1.out)) ?_
       refine Ab.step (Ob.move Aa.free Has.oldIs) ?_
       refine Ab.step (Ob.move Aa.free Has.oldIs) ?_
       refine Ab.step (Ob.binV Aa.free (Has.new 5 0) (Has.cst _) (fun w1=>D9 hm9)) ?_
       refine Ab.step (Ob.indexV Aa.free (Has.new 4 2) (Has.new 6 0) (fun w1=>ixS (by omega))) ?_
       refine Ab.step (Ob.loadV Aa.free (Has.new 7 0) (fun w1 hb1=>ldS hb1 C2.out)) ?_
       refine Ab.step (Ob.binV Aa.free (Has.new 3 5) (Has.new 8 0) (fun w1=>At9 (s:=true) rfl HQ.out)) ?_
       simp only[Ab,Ao,List.map,Bq,List.reverse_cons,List.reverse_nil,List.nil_append,List.cons_append]
       intro wE hE
       iterate 10 (rintro _ rfl)
       simp only[Act.put,List.setIfInBounds_toArray,List.set_cons_zero,List.set_cons_succ]
       have hrE:=HR.out.mono hE
       have hkl:k<l'.length:=by rw[HL'.out,<-HN.out];omega
       have ix:=fun w=>(ixS (w:=w) (b:=g) (o:=(j+1)*1) (n:=n - (j+1)) (c:=c - (j+1)) hlm)
       have ix2:=fun w=>(ixS (w:=w) (b:=g) (o:=0) (n:=n) (c:=c) (i:=k) (by omega))
       have l0:wE.cell? ⟨g,j+1+(m'+1),none⟩=some (Ac x):=by have:=Ad hE (C1.out 0 _ rfl);simpa using this
       have HE:=Avp hE;have HKL:=Avp hkl
       simp only[Nat.zero_add,Nat.mul_one] at ix2 ix
       clear C1 C2
       have f1:=(Uc hrE hkl 0 (by decide))
       obtain⟨f2,f3⟩:=f1
       obtain⟨u9,f4⟩:=Option.isSome_iff_exists.1 f2
       have f5:wE.cell? ⟨g,k,none⟩=some u9:=by simpa [encS] using f4
       have f6:wE.frozen? ⟨g,k,none⟩=false:=by simpa [encS] using f3
       have HP:=Avp (show Ag encS 9 (wE.setCell ⟨g,k,none⟩ (Ac x)) B (.slice (some ⟨g,0,none⟩) n c) (l'.set k x)∧Upd g wE (wE.setCell ⟨g,k,none⟩ (Ac x)) by have:=hrE.setEl hkl x;simpa [encS,World.setCells] using this)
       clear f2 f3 f4 hE hrE
       have hkn:k<n:=by omega
       clear hkl
       go_wp2
       clear ix ix2 l0 f5 f6
       go_roundw
       case rel=>
        refine⟨k+1,m'+1+1,l'.set k x,by simp,by simp,by omega,by omega,by omega,by omega,An.updO (HB2.out.le (HE.out.mono HB2.out.size)) HP.out.2,HP.out.1,by rw[List.length_set];exact HL'.out,?_,?_⟩
        ·rw[List.drop_set_of_lt (by omega),<-List.drop_drop,HDR.out,List.drop_drop]
        ·have hset:(l'.set k x)[k]?=some x:=by rw[List.getElem?_set_self HKL.out]
         rw[Cc hset,List.take_set_of_le (Nat.le_refl _),HTK.out,ST.out,if_neg (of_decide_eq_false HQ.out)]
       case measure=>simp[intOf];omega
     ·have hfin:l'.take k=Cw l:=by
       have h9:l.take (j+1+m)=l:=List.take_of_length_le (by rw[<-HN.out];omega)
       have:=HTK.out
       rw[h9] at this
       exact this
      have hR':Ag encS 9 wr B (.slice (some ⟨g,0,none⟩) l'.length c) l':=by rw[HL'.out,<-HN.out];exact HR.out
      have hsl2:=fun w=>Apt (w:=w) (g:=g) (n:=n) (c:=c) (k:=k) (by omega) hcap
      have hsl3:=fun w=>Auy (w:=w) (g:=g) (n:=n) (c:=c) (k:=k) (by omega)
      have hcl:=fun ty=>Ld (zc:=#[Ac []]) Tryz.underlying67 (fun w=>⟨Ac [],by simp[go_sem],rfl⟩) rfl (by simp[Value.oneCell']) (by decide) hR' (k:=k) (by rw[HL'.out,<-HN.out];omega) ty
      rw[HL'.out,<-HN.out] at hcl
      obtain⟨w',hc1,hc2,hc3⟩:=hcl 0
      have hc4:∀ ty,(Builtin.clear_ #[67] ty #[.slice (Fk 1 (some ⟨g,0,none⟩) c k) (n - k) (c - k)]).run Tryz.prog wr = .ok (.tuple #[]) w':=fun ty=>hc1
      have R2:=Avp hc2;have R3:=Avp hc3;have FIN:=Avp hfin
      generalize Fk 1 (some ⟨g,0,none⟩) c k=Z at *
      clear hcl hc1 hc2 hc3 hR' hfin hsl
      go_wp2
      go_ret
      have wfin:=An.from_ HBEL.out (An.updO HB2.out R3.out) HBEL.out.size
      exact⟨_,rfl,wfin.belowO hB (by omega),by rw[<-FIN.out];exact R2.out,wfin,rfl⟩
  ·have e:Cw l=l:=by have:=HC.out;rwa [List.take_of_length_le (by rw[<-HN.out];omega)] at this
   have E:=Avp e;clear e
   go_wp2
   go_ret
   exact⟨_,rfl,hb.mono (by omega),by rw[E.out];exact H.out.mono hb,An.from_ hb (An.refl_ _ _ _) hb.size,rfl⟩
theorem Ait (B:Nat) (v:Value) (l:List (List UInt8)) (w:World) (h:Ag encS 9 w B v l) (hs:Small l.length) :
  Calls Tryz.prog 270 #[v] w (Atb B v (Cw l) w):=by
 by_cases h2:2<=l.length
 ·rcases h.2 with⟨rfl,h0⟩ | ⟨g,cap,cur,rfl,_⟩
  ·omega
  ·exact Wc B g cap l w h hs h2
 ·obtain⟨A,c,rfl,hd⟩:=Ag.sl h
  have e:=Ks (l:=l) (by omega)
  have H:=Avp h;have E:=Avp e
  have h3:((l.length:Nat):Int)<2:=by omega
  clear h e hd
  go_enter Tryz.func270,Tryz.ntmps270
  go_wp2
  go_ret
  exact⟨_,rfl,Below.refl _ _,by rw[E.out];exact H.out,An.refl_ _ _ _,rfl⟩
end Go.Proofs.YthnbhjpahlceeaaGreatDoor
namespace Go.Proofs
open Go.Shelf
def Tryz.sortMk_ren:Go.Shelf.Ren:=⟨fun | 6=>351 | 15=>218 | 14=>413 | 28=>298 | 29=>299 | 20=>439 | 21=>440 | 22=>441 | 23=>442 | 24=>443 | 25=>444 | 26=>445 | 27=>446 | 46=>462 | 47=>374 | 48=>375 | 49=>463 | 50=>464 | 57=>470 | n=>n,fun | 22=>244 | 24=>249 | 25=>414 | 3=>3 | 39=>233 | 0=>0 | 53=>132 | 55=>169 | 4=>4 | 46=>376 | 45=>375 | 50=>162 | 5=>5 | 9=>9 | 66=>436 | 70=>439 | 76=>475 | 77=>476 | n=>n,fun | n=>n⟩
theorem Tryz.sortMk:Go.Proofs.SlLaysF0.n6 Tryz.prog Tryz.sortMk_ren:={
 mixed:=by kernel_rfl
 f6:=⟨Tryz.f351.name,by decide,Tryz.func351.trans (congrArg some (by kernel_rfl))⟩
 f14:=⟨Tryz.f413.name,by decide,Tryz.func413.trans (congrArg some (by kernel_rfl))⟩
 f15:=Tryz.func218.trans (congrArg some (by kernel_rfl))
 f20:=⟨Tryz.f439.name,by decide,Tryz.func439.trans (congrArg some (by kernel_rfl))⟩
 f21:=⟨Tryz.f440.name,by decide,Tryz.func440.trans (congrArg some (by kernel_rfl))⟩
 f22:=⟨Tryz.f441.name,by decide,Tryz.func441.trans (congrArg some (by kernel_rfl))⟩
 f23:=⟨Tryz.f442.name,by decide,Tryz.func442.trans (congrArg some (by kernel_rfl))⟩
 f24:=⟨Tryz.f443.name,by decide,Tryz.func443.trans (congrArg some (by kernel_rfl))⟩
 f25:=⟨Tryz.f444.name,by decide,Tryz.func444.trans (congrArg some (by kernel_rfl))⟩
 f26:=⟨Tryz.f445.name,by decide,Tryz.func445.trans (congrArg some (by kernel_rfl))⟩
 f27:=⟨Tryz.f446.name,by decide,Tryz.func446.trans (congrArg some (by kernel_rfl))⟩
 f28:=Tryz.func298.trans (congrArg some (by kernel_rfl))
 f29:=Tryz.func299.trans (congrArg some (by kernel_rfl))
 f46:=⟨Tryz.f462.name,by decide,Tryz.func462.trans (congrArg some (by kernel_rfl))⟩
 f47:=Tryz.func374.trans (congrArg some (by kernel_rfl))
 f48:=Tryz.func375.trans (congrArg some (by kernel_rfl))
 f49:=⟨Tryz.f463.name,by decide,Tryz.func463.trans (congrArg some (by kernel_rfl))⟩
 f50:=⟨Tryz.f464.name,by decide,Tryz.func464.trans (congrArg some (by kernel_rfl))⟩
 f57:=⟨Tryz.f470.name,by decide,Tryz.func470.trans (congrArg some (by kernel_rfl))⟩
 t0:=Tryz.underlying0
 a0:=Tryz.isAgg0
 z0:=Tryz.sizeOf0
 v0:=Tryz.zeroValue0
 t3:=Tryz.underlying3
 a3:=Tryz.isAgg3
 z3:=Tryz.sizeOf3
 v3:=Tryz.zeroValue3
 t4:=Tryz.underlying4
 a4:=Tryz.isAgg4
 z4:=Tryz.sizeOf4
 v4:=Tryz.zeroValue4
 t5:=Tryz.underlying5
 a5:=Tryz.isAgg5
 z5:=Tryz.sizeOf5
 v5:=Tryz.zeroValue5
 t9:=Tryz.underlying9
 a9:=Tryz.isAgg9
 z9:=Tryz.sizeOf9
 v9:=Tryz.zeroValue9
 t22:=Tryz.underlying244
 a22:=Tryz.isAgg244
 z22:=Tryz.sizeOf244
 v22:=Tryz.zeroValue244
 t25:=Tryz.underlying414
 a25:=Tryz.isAgg414
 z25:=Tryz.sizeOf414
 v25:=Tryz.zeroValue414
 t39:=Tryz.underlying233
 a39:=Tryz.isAgg233
 z39:=Tryz.sizeOf233
 v39:=Tryz.zeroValue233
 t45:=Tryz.underlying375
 a45:=Tryz.isAgg375
 z45:=Tryz.sizeOf375
 v45:=Tryz.zeroValue375
 t46:=Tryz.underlying376
 a46:=Tryz.isAgg376
 z46:=Tryz.sizeOf376
 v46:=Tryz.zeroValue376
 t50:=Tryz.underlying162
 a50:=Tryz.isAgg162
 z50:=Tryz.sizeOf162
 v50:=Tryz.zeroValue162
 t53:=Tryz.underlying132
 a53:=Tryz.isAgg132
 z53:=Tryz.sizeOf132
 v53:=Tryz.zeroValue132
 t55:=Tryz.underlying169
 a55:=Tryz.isAgg169
 z55:=Tryz.sizeOf169
 v55:=Tryz.zeroValue169
 t66:=Tryz.underlying436
 a66:=Tryz.isAgg436
 z66:=Tryz.sizeOf436
 v66:=Tryz.zeroValue436
 t70:=Tryz.underlying439
 a70:=Tryz.isAgg439
 z70:=Tryz.sizeOf439
 v70:=Tryz.zeroValue439
 t76:=Tryz.underlying475
 a76:=Tryz.isAgg475
 z76:=Tryz.sizeOf475
 v76:=Tryz.zeroValue475
 t77:=Tryz.underlying476
 a77:=Tryz.isAgg476
 z77:=Tryz.sizeOf476
 v77:=Tryz.zeroValue476 }
def Tryz.sortSt_ren:Go.Shelf.Ren:=⟨fun | 6=>267 | 15=>218 | 14=>344 | 28=>298 | 29=>299 | 20=>399 | 21=>400 | 22=>401 | 23=>402 | 24=>403 | 25=>404 | 26=>405 | 27=>406 | 46=>433 | 47=>374 | 48=>375 | 49=>434 | 50=>435 | 57=>461 | n=>n,fun | 22=>67 | 24=>9 | 25=>360 | 3=>3 | 39=>233 | 0=>0 | 53=>132 | 55=>169 | 4=>4 | 46=>376 | 45=>375 | 50=>162 | 5=>5 | 9=>9 | 66=>436 | 70=>439 | 76=>475 | 77=>476 | n=>n,fun | n=>n⟩
theorem Tryz.sortSt:Go.Proofs.SlLaysF.n6 Tryz.prog Tryz.sortSt_ren:={
 mixed:=by kernel_rfl
 f6:=⟨Tryz.f267.name,by decide,Tryz.func267.trans (congrArg some (by kernel_rfl))⟩
 f14:=⟨Tryz.f344.name,by decide,Tryz.func344.trans (congrArg some (by kernel_rfl))⟩
 f15:=Tryz.func218.trans (congrArg some (by kernel_rfl))
 f20:=⟨Tryz.f399.name,by decide,Tryz.func399.trans (congrArg some (by kernel_rfl))⟩
 f21:=⟨Tryz.f400.name,by decide,Tryz.func400.trans (congrArg some (by kernel_rfl))⟩
 f22:=⟨Tryz.f401.name,by decide,Tryz.func401.trans (congrArg some (by kernel_rfl))⟩
 f23:=⟨Tryz.f402.name,by decide,Tryz.func402.trans (congrArg some (by kernel_rfl))⟩
 f24:=⟨Tryz.f403.name,by decide,Tryz.func403.trans (congrArg some (by kernel_rfl))⟩
 f25:=⟨Tryz.f404.name,by decide,Tryz.func404.trans (congrArg some (by kernel_rfl))⟩
 f26:=⟨Tryz.f405.name,by decide,Tryz.func405.trans (congrArg some (by kernel_rfl))⟩
 f27:=⟨Tryz.f406.name,by decide,Tryz.func406.trans (congrArg some (by kernel_rfl))⟩
 f28:=Tryz.func298.trans (congrArg some (by kernel_rfl))
 f29:=Tryz.func299.trans (congrArg some (by kernel_rfl))
 f46:=⟨Tryz.f433.name,by decide,Tryz.func433.trans (congrArg some (by kernel_rfl))⟩
 f47:=Tryz.func374.trans (congrArg some (by kernel_rfl))
 f48:=Tryz.func375.trans (congrArg some (by kernel_rfl))
 f49:=⟨Tryz.f434.name,by decide,Tryz.func434.trans (congrArg some (by kernel_rfl))⟩
 f50:=⟨Tryz.f435.name,by decide,Tryz.func435.trans (congrArg some (by kernel_rfl))⟩
 f57:=⟨Tryz.f461.name,by decide,Tryz.func461.trans (congrArg some (by kernel_rfl))⟩
 t0:=Tryz.underlying0
 a0:=Tryz.isAgg0
 z0:=Tryz.sizeOf0
 v0:=Tryz.zeroValue0
 t3:=Tryz.underlying3
 a3:=Tryz.isAgg3
 z3:=Tryz.sizeOf3
 v3:=Tryz.zeroValue3
 t4:=Tryz.underlying4
 a4:=Tryz.isAgg4
 z4:=Tryz.sizeOf4
 v4:=Tryz.zeroValue4
 t5:=Tryz.underlying5
 a5:=Tryz.isAgg5
 z5:=Tryz.sizeOf5
 v5:=Tryz.zeroValue5
 t9:=Tryz.underlying9
 a9:=Tryz.isAgg9
 z9:=Tryz.sizeOf9
 v9:=Tryz.zeroValue9
 t22:=Tryz.underlying67
 a22:=Tryz.isAgg67
 z22:=Tryz.sizeOf67
 v22:=Tryz.zeroValue67
 a24:=Tryz.isAgg9
 z24:=Tryz.sizeOf9
 t25:=Tryz.underlying360
 a25:=Tryz.isAgg360
 z25:=Tryz.sizeOf360
 v25:=Tryz.zeroValue360
 t39:=Tryz.underlying233
 a39:=Tryz.isAgg233
 z39:=Tryz.sizeOf233
 v39:=Tryz.zeroValue233
 t45:=Tryz.underlying375
 a45:=Tryz.isAgg375
 z45:=Tryz.sizeOf375
 v45:=Tryz.zeroValue375
 t46:=Tryz.underlying376
 a46:=Tryz.isAgg376
 z46:=Tryz.sizeOf376
 v46:=Tryz.zeroValue376
 t50:=Tryz.underlying162
 a50:=Tryz.isAgg162
 z50:=Tryz.sizeOf162
 v50:=Tryz.zeroValue162
 t53:=Tryz.underlying132
 a53:=Tryz.isAgg132
 z53:=Tryz.sizeOf132
 v53:=Tryz.zeroValue132
 t55:=Tryz.underlying169
 a55:=Tryz.isAgg169
 z55:=Tryz.sizeOf169
 v55:=Tryz.zeroValue169
 t66:=Tryz.underlying436
 a66:=Tryz.isAgg436
 z66:=Tryz.sizeOf436
 v66:=Tryz.zeroValue436
 t70:=Tryz.underlying439
 a70:=Tryz.isAgg439
 z70:=Tryz.sizeOf439
 v70:=Tryz.zeroValue439
 t76:=Tryz.underlying475
 a76:=Tryz.isAgg475
 z76:=Tryz.sizeOf475
 v76:=Tryz.zeroValue475
 t77:=Tryz.underlying476
 a77:=Tryz.isAgg476
 z77:=Tryz.sizeOf476
 v77:=Tryz.zeroValue476 }
def Tryz.sortOr_ren:Go.Shelf.Ren:=⟨fun | 6=>139 | 8=>218 | 9=>217 | 19=>298 | 20=>299 | 21=>289 | 22=>290 | 23=>291 | 24=>292 | 25=>293 | 26=>294 | 27=>295 | 28=>296 | 29=>297 | 36=>373 | 31=>374 | 32=>375 | 37=>376 | 38=>377 | 39=>345 | 41=>420 | n=>n,fun | 27=>67 | 29=>9 | 3=>3 | 32=>233 | 26=>67 | 0=>0 | 44=>132 | 46=>169 | 4=>4 | 36=>376 | 35=>375 | 41=>162 | 5=>5 | 9=>9 | 53=>436 | 57=>439 | 63=>475 | 64=>476 | n=>n,fun | n=>n⟩
theorem Tryz.sortOr:Go.Proofs.SlLaysM.n6 Tryz.prog Tryz.sortOr_ren:={
 mixed:=by kernel_rfl
 f6:=⟨Tryz.f139.name,by decide,Tryz.func139.trans (congrArg some (by kernel_rfl))⟩
 f8:=Tryz.func218.trans (congrArg some (by kernel_rfl))
 f9:=⟨Tryz.f217.name,by decide,Tryz.func217.trans (congrArg some (by kernel_rfl))⟩
 f19:=Tryz.func298.trans (congrArg some (by kernel_rfl))
 f20:=Tryz.func299.trans (congrArg some (by kernel_rfl))
 f21:=⟨Tryz.f289.name,by decide,Tryz.func289.trans (congrArg some (by kernel_rfl))⟩
 f22:=⟨Tryz.f290.name,by decide,Tryz.func290.trans (congrArg some (by kernel_rfl))⟩
 f23:=⟨Tryz.f291.name,by decide,Tryz.func291.trans (congrArg some (by kernel_rfl))⟩
 f24:=⟨Tryz.f292.name,by decide,Tryz.func292.trans (congrArg some (by kernel_rfl))⟩
 f25:=⟨Tryz.f293.name,by decide,Tryz.func293.trans (congrArg some (by kernel_rfl))⟩
 f26:=⟨Tryz.f294.name,by decide,Tryz.func294.trans (congrArg some (by kernel_rfl))⟩
 f27:=⟨Tryz.f295.name,by decide,Tryz.func295.trans (congrArg some (by kernel_rfl))⟩
 f28:=⟨Tryz.f296.name,by decide,Tryz.func296.trans (congrArg some (by kernel_rfl))⟩
 f29:=⟨Tryz.f297.name,by decide,Tryz.func297.trans (congrArg some (by kernel_rfl))⟩
 f31:=Tryz.func374.trans (congrArg some (by kernel_rfl))
 f32:=Tryz.func375.trans (congrArg some (by kernel_rfl))
 f36:=⟨Tryz.f373.name,by decide,Tryz.func373.trans (congrArg some (by kernel_rfl))⟩
 f37:=⟨Tryz.f376.name,by decide,Tryz.func376.trans (congrArg some (by kernel_rfl))⟩
 f38:=⟨Tryz.f377.name,by decide,Tryz.func377.trans (congrArg some (by kernel_rfl))⟩
 f39:=⟨Tryz.f345.name,by decide,Tryz.func345.trans (congrArg some (by kernel_rfl))⟩
 f41:=⟨Tryz.f420.name,by decide,Tryz.func420.trans (congrArg some (by kernel_rfl))⟩
 t0:=Tryz.underlying0
 a0:=Tryz.isAgg0
 z0:=Tryz.sizeOf0
 v0:=Tryz.zeroValue0
 t3:=Tryz.underlying3
 a3:=Tryz.isAgg3
 z3:=Tryz.sizeOf3
 v3:=Tryz.zeroValue3
 t4:=Tryz.underlying4
 a4:=Tryz.isAgg4
 z4:=Tryz.sizeOf4
 v4:=Tryz.zeroValue4
 t5:=Tryz.underlying5
 a5:=Tryz.isAgg5
 z5:=Tryz.sizeOf5
 v5:=Tryz.zeroValue5
 t9:=Tryz.underlying9
 a9:=Tryz.isAgg9
 z9:=Tryz.sizeOf9
 v9:=Tryz.zeroValue9
 t26:=Tryz.underlying67
 a26:=Tryz.isAgg67
 z26:=Tryz.sizeOf67
 v26:=Tryz.zeroValue67
 t27:=Tryz.underlying67
 a27:=Tryz.isAgg67
 z27:=Tryz.sizeOf67
 v27:=Tryz.zeroValue67
 t29:=Tryz.underlying9
 a29:=Tryz.isAgg9
 z29:=Tryz.sizeOf9
 v29:=Tryz.zeroValue9
 t32:=Tryz.underlying233
 a32:=Tryz.isAgg233
 z32:=Tryz.sizeOf233
 v32:=Tryz.zeroValue233
 t35:=Tryz.underlying375
 a35:=Tryz.isAgg375
 z35:=Tryz.sizeOf375
 v35:=Tryz.zeroValue375
 t36:=Tryz.underlying376
 a36:=Tryz.isAgg376
 z36:=Tryz.sizeOf376
 v36:=Tryz.zeroValue376
 t41:=Tryz.underlying162
 a41:=Tryz.isAgg162
 z41:=Tryz.sizeOf162
 v41:=Tryz.zeroValue162
 t44:=Tryz.underlying132
 a44:=Tryz.isAgg132
 z44:=Tryz.sizeOf132
 v44:=Tryz.zeroValue132
 t46:=Tryz.underlying169
 a46:=Tryz.isAgg169
 z46:=Tryz.sizeOf169
 v46:=Tryz.zeroValue169
 t53:=Tryz.underlying436
 a53:=Tryz.isAgg436
 z53:=Tryz.sizeOf436
 v53:=Tryz.zeroValue436
 t57:=Tryz.underlying439
 a57:=Tryz.isAgg439
 z57:=Tryz.sizeOf439
 v57:=Tryz.zeroValue439
 t63:=Tryz.underlying475
 a63:=Tryz.isAgg475
 z63:=Tryz.sizeOf475
 v63:=Tryz.zeroValue475
 t64:=Tryz.underlying476
 a64:=Tryz.isAgg476
 z64:=Tryz.sizeOf476
 v64:=Tryz.zeroValue476 }
end Go.Proofs
namespace Go.Proofs.YthnbhjpahlceeaaGreatDoor
open Go.RowKit Go.Sort
theorem Ju.trans {a b c:World} (h:Ju a b) (k:Ju b c):Ju a c:=by
 obtain⟨q,os,rfl⟩:=h
 obtain⟨q',os',rfl⟩:=k
 refine⟨q+q',os++os',?_⟩
 simp[World.drewN,grow,Array.append_assoc,Nat.add_assoc]
theorem Ya {α:Type} [Inhabited α] (e:Enc α) (hz:0<e.z) (l:List α):flatK e.enc e.z l.toArray=(e.all l).toArray:=by
 apply Array.ext
 ·simp[Enc.all_length]
 ·intro j h1 h2
  have hj:j<l.length*e.z:=by simpa using h1
  have hi:j / e.z<l.length:=Nat.div_lt_of_lt_mul (by rwa [Nat.mul_comm])
  have hm:j % e.z<(e.enc l[j / e.z]).length:=by rw[e.len];exact Nat.mod_lt _ hz
  have g1:=e.all_get l (j / e.z) l[j / e.z] (List.getElem?_eq_getElem hi) (j % e.z) _ (List.getElem?_eq_getElem hm)
  rw[Nat.div_add_mod'] at g1
  have e1:(flatK e.enc e.z l.toArray)[j]=(flatK e.enc e.z l.toArray)[j]!:=(getElem!_pos _ j h1).symm
  rw[e1,get_flatK _ _ _ _ (by simpa using hj)]
  have e2:l.toArray[j / e.z]! = l[j / e.z]:=by rw[getElem!_pos _ _ (by simpa using hi)];simp
  rw[e2,getElem!_pos (e.enc l[j / e.z]) (j % e.z) hm]
  have:=(List.getElem?_eq_some_iff.1 g1).2
  simp[this]
section
variable {α:Type} [Inhabited α] {e:Enc α} {ty:TypeId} {w:World} {B g cap:Nat} {l l':List α}
theorem Ag.holdsK (hz:0<e.z) (h:Ag e ty w B (.slice (some ⟨g,0,none⟩) l.length cap) l):HoldsK e.enc e.z w g 0 l.toArray∧g<w.heap.size:=by
 rcases h.2 with⟨h2,_⟩ | ⟨g',cap',cur,hv,hg,hh,hn,hm,hs,ht⟩
 ·cases h2
 ·cases hv
  refine⟨fun j hj=>?_,(Array.getElem?_eq_some_iff.1 hh).1⟩
  rw[Ya e hz] at hj ⊢
  have hj':j<(e.all l).length:=by simpa using hj
  rw[cell_of_row w g _ cur _ (0,0) hh,frozen_of_row w g _ cur _ hh]
  obtain⟨u,e2⟩:∃ u,(e.all l)[j]?=some u:=⟨_,List.getElem?_eq_getElem hj'⟩
  have e1:(e.all l).toArray[j]! = u:=by
   rw[getElem!_pos (e.all l).toArray j hj]
   have:=(List.getElem?_eq_some_iff.1 e2).2
   simpa using this
  rw[e1]
  rw[<-ht,List.getElem?_take] at e2
  split at e2
  ·exact⟨by simpa using e2,rfl⟩
  ·cases e2
theorem Ag.turned (h:Ag e ty w B (.slice (some ⟨g,0,none⟩) l.length cap) l) (hl:l'.length=l.length) {F:Array Value->Array Value} (hF:∀ cur:Array Value,l.length*e.z<=cur.size->(F cur).size=cur.size∧(F cur).toList.take (l.length*e.z)=e.all l') {w':World} {os:Array Obj}
  (h1:w'.os=w.os) (h2:w'.tape=w.tape) (h3:w'.output=w.output) (hh':w'.heap=(w.heap.modify g (onCells F))++os):Ag e ty w' B (.slice (some ⟨g,0,none⟩) l.length cap) l'∧Go.RowKit.Below B w w':=by
 rcases h.2 with⟨h2,_⟩ | ⟨g',cap',cur,hv,hg,hh,hn,hm,hs,ht⟩
 ·cases h2
 ·cases hv
  have hgz:g<w.heap.size:=(Array.getElem?_eq_some_iff.1 hh).1
  have hblock:∀ k,k<w.heap.size->w'.heap[k]?=(w.heap.modify g (onCells F))[k]?:=by
   intro k hk
   rw[hh',Array.getElem?_append,if_pos (by simpa using hk)]
  obtain⟨hF1,hF2⟩:=hF cur (by rw[hs];exact Nat.mul_le_mul_right _ hn)
  refine⟨⟨Enc.all_length _,.inr ⟨g,cap,F cur,by rw[hl],hg,?_,by rw[hl];exact hn,hm,by rw[hF1];exact hs,by rw[hl];exact hF2⟩⟩,⟨h1,h2,h3,?_,fun k hk=>?_⟩⟩
  ·rw[hblock g hgz,Array.getElem?_modify,if_pos rfl,hh];rfl
  ·rw[hh'];simp
  ·rw[hblock k (by omega),Array.getElem?_modify,if_neg (by omega)]
theorem Air (hz:0<e.z) (hl:l'.length=l.length) (cur:Array Value) (hc:l.length*e.z<=cur.size):(putCells id 0 (flatK e.enc e.z l'.toArray) cur).size=cur.size∧(putCells id 0 (flatK e.enc e.z l'.toArray) cur).toList.take (l.length*e.z)=e.all l':=by
 refine⟨by simp[putCells],?_⟩
 rw[Ya e hz]
 apply List.ext_getElem?
 intro j
 rw[List.getElem?_take]
 by_cases hj:j<l.length*e.z
 ·rw[if_pos hj]
  have hjc:j<cur.size:=by omega
  have hjd:j<(e.all l').length:=by rw[Enc.all_length,hl];exact hj
  simp[putCells,hjc,hjd]
 ·rw[if_neg hj,List.getElem?_eq_none (by rw[Enc.all_length,hl];omega)]
end
def Rg {α:Type} (lt:α->α->Bool) (l l':List α):Prop:=l'.Perm l∧l'.Pairwise (fun a b=>lt b a=false)
theorem Rg.of {α:Type} [Inhabited α] {lt:α->α->Bool} {l:List α} {d:Array α} (h1:Go.Sort.PermIn 0 l.toArray.size l.toArray d) (h2:Go.Sort.SortedIn lt 0 l.toArray.size d):Rg lt l d.toList:=by
 have hs:d.size=l.length:=by simpa using h1.1
 refine⟨?_,?_⟩
 ·have:=h1.2.2
  rw[Array.extract_eq_self_of_le (by simp[hs]),Array.extract_eq_self_of_le (Nat.le_refl _)] at this
  simpa using this
 ·rw[List.pairwise_iff_getElem]
  intro i j hi hj hij
  have:=h2 i j (Nat.zero_le _) hij (by simp at hj ⊢;omega)
  rw[getElem!_pos d j (by simpa using hj),getElem!_pos d i (by simpa using hi)] at this
  simpa using this
def Agg {α:Type} (e:Enc α) (ty:TypeId) (B:Nat) (lt:α->α->Bool) (v:Value) (l:List α) (w:World) (en:Ending) (w':World):Prop:=
 en = .returned (.tuple #[])∧Go.RowKit.Below B w w'∧∃ l',Rg lt l l'∧Ag e ty w' B v l'
instance:Inhabited Av:=⟨⟨(0,0),0,0⟩⟩
def mlt (a b:Av):Bool:=Bp a.d b.d
def mcf (a b:Av):Int:=Gv a.d b.d
theorem Ku (x y:Av):ltOf mcf x y=mlt x y:=Sk x.d y.d
theorem swoMark:Go.Sort.SWO (ltOf mcf) where
 irrefl x:=swoDot.irrefl x.d
 trans x y z:=swoDot.trans x.d y.d z.d
 ntrans x y z:=swoDot.ntrans x.d y.d z.d
theorem Atk (a b:Av) (w:World):Calls Tryz.prog 352 #[Dh a,Dh b] w fun e w'=>e = .returned (.int .i64 (mcf a b))∧Ju w w':=by
 have D:=Avp (Tv a.d.1 a.d.2 b.d.1 b.d.2)
 unfold mcf
 generalize Gv a.d b.d=r at *
 go_enter Tryz.func352,Tryz.ntmps352
 go_wp2_with (go_at_call 353;((with_reducible refine(D.out _).mono ?_);rintro e w' ⟨rfl,hg⟩))
 go_ret
 exact⟨rfl,(((Ju.refl w).alloc _).alloc _).trans hg⟩
theorem Ass (blk off size:Nat) (w:World):CmpLays Tryz.prog 352 #[] encM.enc 4 mcf blk off size w:=fun _ _ _ _ x y=>Atk x y _
theorem Abg:∀ args w,(callFunc 352 args).run Tryz.prog w = .ok (.enter 352 args) w:=enters_of Tryz.func352 (by kernel_rfl) rfl
theorem As7 (B:Nat) (v:Value) (l:List Av) (w:World) (h:Ag encM 249 w B v l) (hs:Small l.length) :
  Calls Tryz.prog 351 #[v,.func (.func 352) #[] #[]] w (Agg encM 249 B mlt v l w):=by
 rcases h.2 with⟨rfl,h0⟩ | ⟨g,cap,cur,rfl,_⟩
 ·have hl:l=[]:=List.eq_nil_of_length_eq_zero h0
  subst hl
  refine(AnyF.slices_SortFunc_none Tryz.sortMk none 0 _ w).mono ?_
  rintro e w' ⟨rfl,rfl⟩
  exact⟨rfl,Below.refl _ _,[],⟨List.Perm.refl _,List.Pairwise.nil⟩,h⟩
 ·obtain⟨hh,hg⟩:=Ag.holdsK (by decide) h
  have hcon:=AnyQ.slices_SortFunc Tryz.sortMk 4 Tryz.isAgg249 Tryz.sizeOf249 encM.enc encM.len encM.one mcf swoMark 352 #[] g 0 cap l.toArray w Abg (Ass g 0 _ w) hh hg (by have:=hs.out;simp;omega)
  change Calls Tryz.prog 351 _ _ _ at hcon
  have e:l.toArray.size=l.length:=by simp
  rw[e] at hcon
  refine hcon.mono ?_
  rintro e w' ⟨rfl,d',n,os,h1,h2,rfl⟩
  have hl:d'.toList.length=l.length:=by simpa using h1.1
  have hr:=Ag.turned h hl (Air (by decide) hl) (w':=sortWorldK encM.enc 4 w g 0 n d' os) (os:=os) rfl rfl rfl (by simp[sortWorldK];rfl)
  refine⟨rfl,hr.2,d'.toList,?_,hr.1⟩
  have hlt:ltOf mcf=mlt:=by funext x y;exact Ku x y
  rw[hlt] at h2
  exact Rg.of (by simpa using h1) (by simpa using h2)
end Go.Proofs.YthnbhjpahlceeaaGreatDoor
