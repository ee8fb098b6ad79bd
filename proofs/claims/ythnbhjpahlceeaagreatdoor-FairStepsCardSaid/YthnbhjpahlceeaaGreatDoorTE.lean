/-
  slices.SortFunc with cmp.Compare, slices.Sort: at strings.
-/
import Derived.Test.YthnbhjpahlceeaaGreatDoorTD
import Derived.Test.YthnbhjpahlceeaaGreatDoorTC
import Derived.Test.YthnbhjpahlceeaaGreatDoorTB
import Derived.Test.YthnbhjpahlceeaaGreatDoorProg
import Derived.Shelf.Strings.Search3
import Derived.Shelf.Strings.Runes
import Derived.Shelf.Small.Strs
import Derived.WalkMore
import Derived.WalkSpells
set_option maxRecDepth 100000
set_option maxHeartbeats 8000000
set_option linter.unusedSectionVars false
set_option linter.unusedVariables false
set_option linter.unusedSimpArgs false
set_option maxRecDepth 100000
set_option maxHeartbeats 8000000
namespace Go.Proofs.YthnbhjpahlceeaaGreatDoor
open Go.RowKit Go.Sort
def Fa (l:List (List UInt8)):List (List UInt8):=l.mergeSort fun x y=>decide (x<=y)
def Qc (a b:List UInt8):Int:=if Op.bytesLess a b then -1 else if Op.bytesLess b a then 1 else 0
theorem Acj {a b:List UInt8} (h:¬a<b):b<a∨a=b:=by
 by_cases h':b<a
 ·exact .inl h'
 ·exact .inr (List.le_antisymm (List.not_lt.1 h') (List.not_lt.1 h))
theorem Akp (a:List UInt8) (w:World):Calls Tryz.prog 345 #[Ac a] w fun e w'=>e = .returned (.bool false)∧w=w':=by
 go_enter Tryz.func345,Tryz.ntmps345
 go_wp2
 go_ret
 exact⟨by simp,rfl⟩
theorem Apz (a b:List UInt8) (w:World) (t:TypeId):(Go.binOp .lss t (Ac a) (Ac b)).run Tryz.prog w = .ok (.bool (Op.bytesLess a b)) w:=by simp[go_sem]
theorem Aqd (a b:List UInt8) (w:World) (t:TypeId):(Go.binOp .gtr t (Ac a) (Ac b)).run Tryz.prog w = .ok (.bool (!(Op.bytesLess a b||a==b))) w:=by simp[go_sem]
theorem Afc (a b:List UInt8) (w:World):Calls Tryz.prog 268 #[Ac a,Ac b] w fun e w'=>e = .returned (.int .i64 (Qc a b))∧w=w':=by
 have h1:=fun w=>Akp a w
 have h2:=fun w=>Akp b w
 have hl:=Apz a b
 have hg:=Aqd a b
 have e:Qc a b=if Op.bytesLess a b then -1 else if !(Op.bytesLess a b||a==b) then 1 else 0:=by
  unfold Qc
  rw[bytesLess_eq,bytesLess_eq]
  by_cases h:a<b
  ·simp[h]
  ·by_cases h':a=b
   ·subst h';simp[h]
   ·have:b<a:=by
     rcases Acj h with h3 | h3
     ·exact h3
     ·exact absurd h3 h'
    simp[h,h',this]
 rw[e]
 clear e hl hg
 obtain⟨r,hr⟩:∃ r,Op.bytesLess a b=r:=⟨_,rfl⟩
 obtain⟨s,hs⟩:∃ s,(a==b)=s:=⟨_,rfl⟩
 cases r <;> cases s
 all_goals
  rw[hr,hs]
  go_enter Tryz.func268,Tryz.ntmps268
  go_wp2_with (first
   | (go_at_call 345;((with_reducible refine(h1 _).mono ?_);rintro e w' ⟨rfl,rfl⟩))
   | (go_at_call 345;((with_reducible refine(h2 _).mono ?_);rintro e w' ⟨rfl,rfl⟩)))
  go_ret
  exact⟨rfl,rfl⟩
theorem R6 (x y:List UInt8):ltOf Qc x y=decide (x<y):=by
 unfold ltOf Qc
 rw[bytesLess_eq,bytesLess_eq]
 by_cases h1:x<y
 ·simp[h1]
 ·by_cases h2:y<x <;> simp[h1,h2]
theorem Aq0:Go.Sort.SWO (ltOf Qc) where
 irrefl x:=by rw[R6];simp[List.lt_irrefl]
 trans x y z h1 h2:=by rw[R6,decide_eq_true_iff] at *;exact List.lt_trans h1 h2
 ntrans x y z h1 h2:=by
  rw[R6,decide_eq_false_iff_not] at *
  exact fun h=>h1 (by
   rcases Acj h2 with h3 | h3
   ·exact List.lt_trans h h3
   ·rw[h3];exact h)
theorem Art (x y:List UInt8) (h1:ltOf Qc x y=false) (h2:ltOf Qc y x=false):x=y:=by
 rw[R6,decide_eq_false_iff_not] at h1 h2
 exact List.le_antisymm (List.not_lt.1 h2) (List.not_lt.1 h1)
theorem Ar3 (blk off size:Nat) (w:World):CmpLays1 Tryz.prog 268 #[] Ac Qc blk off size w:=fun _ _ _ _ x y=>(Afc x y _).mono fun _ _ ⟨h1,h2⟩=>⟨h1,0,#[],by rw[<-h2];simp[World.drewN,grow]⟩
theorem Aoa:∀ args w,(callFunc 268 args).run Tryz.prog w = .ok (.enter 268 args) w:=enters_of Tryz.func268 (by kernel_rfl) rfl
theorem Zm:∀ l:List (List UInt8),encS.all l=l.map Ac
 | []=>rfl
 | a::t=>by rw[Enc.all_cons,Zm t];rfl
theorem Acg {l l':List (List UInt8)} (hl:l'.length=l.length) (cur:Array Value) (hc:l.length*encS.z<=cur.size):(putCells Ac 0 l'.toArray cur).size=cur.size∧(putCells Ac 0 l'.toArray cur).toList.take (l.length*encS.z)=encS.all l':=by
 have e:=Zm l'
 refine⟨by simp[putCells],?_⟩
 rw[e]
 have hz:encS.z=1:=rfl
 rw[hz,Nat.mul_one] at hc ⊢
 apply List.ext_getElem?
 intro j
 rw[List.getElem?_take]
 by_cases hj:j<l.length
 ·rw[if_pos hj]
  have hjc:j<cur.size:=by omega
  have hjd:j<l'.length:=by omega
  simp[putCells,hjc,hjd]
 ·rw[if_neg hj,List.getElem?_eq_none (by simp;omega)]
theorem Ajg {w:World} {B g cap:Nat} {l:List (List UInt8)} (h:Ag encS 9 w B (.slice (some ⟨g,0,none⟩) l.length cap) l):Holds Ac w g 0 l.toArray∧g<w.heap.size:=by
 obtain⟨hh,hg⟩:=Ag.holdsK (by decide) h
 refine⟨fun j hj=>?_,hg⟩
 have hj':j<l.length:=by simpa using hj
 have hz:encS.z=1:=rfl
 obtain⟨h1,h2⟩:=hh j (by simpa [hz] using hj')
 refine⟨?_,h2⟩
 rw[h1,hz,get_flatK _ _ _ _ (by simpa using hj')]
 simp[encS,Nat.mod_one]
def Up (B:Nat) (v:Value) (l:List (List UInt8)) (w:World) (en:Ending) (w':World):Prop:=
 en = .returned (.tuple #[])∧Go.RowKit.Below B w w'∧Ag encS 9 w' B v (Fa l)
theorem It (l:List (List UInt8)):(Fa l).length=l.length:=List.length_mergeSort l
theorem Ap5 (B:Nat) (v:Value) (l:List (List UInt8)) (w:World) (h:Ag encS 9 w B v l) (hs:Small l.length) :
  Calls Tryz.prog 267 #[v,.func (.func 268) #[] #[]] w (Up B v l w):=by
 rcases h.2 with⟨rfl,h0⟩ | ⟨g,cap,cur,rfl,_⟩
 ·have hl:l=[]:=List.eq_nil_of_length_eq_zero h0
  subst hl
  refine(AnyF.slices_SortFunc_none { Tryz.sortSt with } none 0 _ w).mono ?_
  rintro e w' ⟨rfl,rfl⟩
  exact⟨rfl,Below.refl _ _,by simpa [Fa] using h⟩
 ·obtain⟨hh,hg⟩:=Ajg h
  have hcon:=Any.slices_SortFunc_total Tryz.sortSt Ac (fun _=>rfl) Qc Aq0 268 #[] g 0 cap l.toArray w Aoa (Ar3 g 0 _ w) hh hg (by have:=hs.out;simp;omega) Art
  change Calls Tryz.prog 267 _ _ _ at hcon
  have e:l.toArray.size=l.length:=by simp
  rw[e] at hcon
  have ef:(fun x y=>!(ltOf Qc) y x)=fun x y:List UInt8=>decide (x<=y):=by
   funext x y
   rw[R6]
   by_cases hxy:y<x
   ·simp[hxy]
   ·simp[hxy,List.not_lt.1 hxy]
  rw[ef] at hcon
  refine hcon.mono ?_
  rintro e w' ⟨rfl,n,os,rfl⟩
  have hl:=It l
  have hr:=Ag.turned h hl (Acg hl) (w':=sortWorld Ac w g 0 n (Fa l).toArray os) (os:=os) rfl rfl rfl (by simp[sortWorld];rfl)
  exact⟨rfl,hr.2,hr.1⟩
theorem Apb (B:Nat) (v:Value) (l:List (List UInt8)) (w:World) (h:Ag encS 9 w B v l) (hs:Small l.length) :
  Calls Tryz.prog 139 #[v] w (Up B v l w):=by
 rcases h.2 with⟨rfl,h0⟩ | ⟨g,cap,cur,rfl,_⟩
 ·have hl:l=[]:=List.eq_nil_of_length_eq_zero h0
  subst hl
  refine(AnyM.slices_Sort_string_none Tryz.sortOr none 0 w).mono ?_
  rintro e w' ⟨rfl,rfl⟩
  exact⟨rfl,Below.refl _ _,by simpa [Fa] using h⟩
 ·obtain⟨hh,hg⟩:=Ajg h
  have hcon:=AnyM.slices_Sort_string Tryz.sortOr g 0 cap l w hh hg (by have:=hs.out;omega)
  change Calls Tryz.prog 139 _ _ _ at hcon
  refine hcon.mono ?_
  rintro e w' ⟨rfl,n,os,rfl⟩
  have hl:=It l
  have hr:=Ag.turned h hl (Acg hl) (w':=grow (putRow encStr (Sort.ahead w n) g 0 (Fa l).toArray) os) (os:=os) rfl rfl rfl (by simp[grow,putRow,mapBlock])
  exact⟨rfl,hr.2,hr.1⟩
end Go.Proofs.YthnbhjpahlceeaaGreatDoor
namespace Go.Proofs.YthnbhjpahlceeaaGreatDoor
open Go.RowKit
abbrev Wr (w:World) (A B:Option Addr) (n ca m cb:Nat) (A' B':Option Addr) (n' ca' m' cb':Nat):World:=((w.alloc (Ba A n ca B m cb)).alloc (Ba A' n' ca' B' m' cb')).alloc (Ba none 0 0 none 0 0)
theorem Ap3 (A B A' B':Option Addr) (n ca m cb n' ca' m' cb':Nat) (a b:Ctx) (w:World) (ha:Con w A n ca B m cb a) (hb:Con w A' n' ca' B' m' cb' b) (hs:Small (n+n'+(m+m')+1)) (va:Dy a=true) (vb:Dy b=true) :
  Calls Tryz.prog 269 #[.agg #[.slice A n ca,.slice B m cb],.agg #[.slice A' n' ca',.slice B' m' cb']] w (Ret w (Dw (Ec w.heap.size (Em a b)) 0)):=by
 have hb0:Below w.heap.size w (Wr w A B n ca m cb A' B' n' ca' m' cb'):=by go_grown
 have y0:(Wr w A B n ca m cb A' B' n' ca' m' cb').cell? ⟨w.heap.size,0,none⟩=some (.slice A n ca):=by simp[go_sem]
 have y1:(Wr w A B n ca m cb A' B' n' ca' m' cb').cell? ⟨w.heap.size,1,none⟩=some (.slice B m cb):=by simp[go_sem]
 have v0:(Wr w A B n ca m cb A' B' n' ca' m' cb').cell? ⟨w.heap.size+1,0,none⟩=some (.slice A' n' ca'):=by simp[go_sem]
 have v1:(Wr w A B n ca m cb A' B' n' ca' m' cb').cell? ⟨w.heap.size+1,1,none⟩=some (.slice B' m' cb'):=by simp[go_sem]
 have z0:(Wr w A B n ca m cb A' B' n' ca' m' cb').cell? ⟨w.heap.size+2,0,none⟩=some (.slice none 0 0):=by simp[go_sem]
 have z1:(Wr w A B n ca m cb A' B' n' ca' m' cb').cell? ⟨w.heap.size+2,1,none⟩=some (.slice none 0 0):=by simp[go_sem]
 have zf:∀ o,(Wr w A B n ca m cb A' B' n' ca' m' cb').frozen? ⟨w.heap.size+2,o,none⟩=false:=fun o=>by simp[go_sem]
 have hsm:Small (m+m'):=by have:=hs.out;unfold Small;omega
 have hsn:Small (n+n'):=by have:=hs.out;unfold Small;omega
 have hsc:∀ (C D:Option Addr) (k ck j cj:Nat) (w':World),Con w' C k ck D j cj (Ex a.1 b.1,Be a.2 b.2)->Small (k+j+1):=fun C D k ck j cj w' hc=>by
  have e1:=hc.v.len;have e2:=hc.k.len;have:=Cy a.2 b.2;have:=If b.1 a.1;have:=ha.v.len;have:=ha.k.len;have:=hb.v.len;have:=hb.k.len;have:=hs.out
  unfold Small;simp only at e1 e2;omega
 have a0:=ha.mono hb0
 have b0:=hb.mono hb0
 have f:=Hc A B n ca m cb a _ a0
 have f2:=fun w1 h1=>Hc A' B' n' ca' m' cb' b w1 h1
 rw[va] at f
 rw[vb] at f2
 have hvu:Dy (Ex a.1 b.1,Be a.2 b.2)=true:=Lt.2 (Akf (Lt.1 va) (Lt.1 vb))
 have vav:Eb a.1=true:=by unfold Dy at va;simp at va;exact va.1
 have vbv:Eb b.1=true:=by unfold Dy at vb;simp at vb;exact vb.1
 have A0:=Avp a0;have B0:=Avp b0;have HB:=Avp hb0;have Y0:=Avp y0;have Y1:=Avp y1;have V0:=Avp v0;have V1:=Avp v1;have Z0:=Avp z0;have Z1:=Avp z1;have ZF:=Avp zf;have HSC:=Avp hsc;have HVU:=Avp hvu
 have VA:=Avp vav;have VB:=Avp vbv
 have F:=Avp f;have F2:=Avp f2
 clear hb0 y0 y1 v0 v1 z0 z1 zf ha hb a0 b0 f f2 hsc hvu va vb vav vbv
 unfold Em
 rw[My]
 go_enter Tryz.func269,Tryz.ntmps269
 go_wp2_with fail
 refine F.out.mono ?_
 rintro e w1 ⟨_,rfl,hb1,rfl⟩
 have F3:=Avp (F2.out w1 (B0.out.mono hb1))
 have k0:=Ad hb1 V0.out;have k1:=Ad hb1 V1.out
 have HB1:=Avp hb1
 clear hb1 F F2
 go_wp2_with fail
 refine F3.out.mono ?_
 rintro e w2 ⟨_,rfl,hb2,rfl⟩
 have hb2':=HB1.out.le hb2
 have F4:=Avp (Aj5 A A' n ca n' ca' a.1 b.1 w2 (A0.out.v.mono hb2') (B0.out.v.mono hb2') hsn VA.out VB.out)
 have l0:=Ad hb2' Y0.out;have l1:=Ad hb2' V0.out
 have HB2:=Avp hb2'
 clear hb2 hb2' F3 k0 k1 HB1 VA VB
 go_wp2_with fail
 refine F4.out.mono ?_
 rintro e w3 ⟨_,rfl,hb3,v,rfl,hr3⟩
 obtain⟨C,k,ck,rfl,hd3⟩:=Dd.dots hr3
 have hb3':=HB2.out.le hb3
 have F5:=Avp (Aif B B' m cb m' cb' a.2 b.2 w3 (A0.out.k.mono hb3') (B0.out.k.mono hb3') hsm)
 have m0:=Ad hb3' Y1.out;have m1:=Ad hb3' V1.out
 have HB3:=Avp hb3';have D3:=Avp hd3
 clear hb3 hb3' hr3 hd3 F4 l0 l1 HB2
 go_wp2_with fail
 refine F5.out.mono ?_
 rintro e w4 ⟨v,rfl,hb4,hr4⟩
 obtain⟨D,j,cj,rfl,hd4⟩:=Dd.dots hr4
 have hb4':=HB3.out.le hb4
 have hc4:Con w4 C k ck D j cj (Ex a.1 b.1,Be a.2 b.2):=⟨D3.out.mono hb4,hd4⟩
 have F6:=Avp (Zs C D k ck j cj _ w4 hc4 (HSC.out _ _ _ _ _ _ _ hc4) HVU.out)
 have HB4:=Avp hb4'
 clear hb4 hb4' hr4 hd4 hc4 F5 m0 m1 HB3 D3
 go_wp2_with fail
 refine F6.out.mono ?_
 rintro e w5 ⟨_,rfl,hb5,_,rfl,A1,n1,c1,B1,m1,d1,rfl,r1,r2,hap⟩
 have hEE:=HB4.out.le hb5
 have x0:=Ad hEE Z0.out
 have x1:=Ad hEE Z1.out
 have yf0:w5.frozen? ⟨w.heap.size+2,0,none⟩=false:=(hEE.frozen (p:=⟨w.heap.size+2,0,none⟩) (by simp)).trans (ZF.out 0)
 have yf1:w5.frozen? ⟨w.heap.size+2,1,none⟩=false:=(hEE.frozen (p:=⟨w.heap.size+2,1,none⟩) (by simp)).trans (ZF.out 1)
 have hz:w.heap.size+2<w5.heap.size:=World.block_lt_of_cell? w5 _ x0
 have s0:=Ca (v:=.slice A1 n1 c1) x0
 have s1:=Ca (v:=.slice B1 m1 d1) (Cs (b:=⟨w.heap.size+2,0,none⟩) (v:=.slice A1 n1 c1) (by simp) x1)
 have hbase:w.heap.size+3<=w4.heap.size:=by have h:=HB4.out.size;simp at h;omega
 have HE2:=Avp hEE;have R1:=Avp r1;have R2:=Avp r2;have HAP:=Avp hap
 clear hb5 hEE r1 r2 hap F6 HB4
 go_wp2
 refine bodyPost_ret (v:=.tuple #[.agg #[.slice A1 n1 c1,.slice B1 m1 d1],.int .i64 0]) (by simp[results,Tryz.results269,go_sem,s0,s1]) rfl ?_
 have ho1:∀ j,(Value.slice A1 n1 c1).ownBlock=some j->j≠w.heap.size+2:=fun j hj=>by have:=Row.own _ R1.out j hj;omega
 have ho2:∀ j,(Value.slice B1 m1 d1).ownBlock=some j->j≠w.heap.size+2:=fun j hj=>by have:=Row.own _ R2.out j hj;omega
 exact⟨_,rfl,((HB.out.le HE2.out).setCell (p:=⟨w.heap.size+2,0,none⟩) (by simp) _).setCell (p:=⟨w.heap.size+2,1,none⟩) (by simp) _,_,rfl,_,_,_,_,_,_,rfl,
  Row.low (Row.set_ (Row.set_ R1.out (p:=⟨w.heap.size+2,0,none⟩) ho1 _) (p:=⟨w.heap.size+2,1,none⟩) ho1 _) (by omega),Row.low (Row.set_ (Row.set_ R2.out (p:=⟨w.heap.size+2,0,none⟩) ho2 _) (p:=⟨w.heap.size+2,1,none⟩) ho2 _) (by omega),HAP.out⟩
def Ct (c:Ar) (nm:List UInt8):List Av:=match Jp c.items nm with
 | none=>[]
 | some x=>x.2
def Sq (B:Nat) (l:List Av) (w:World) (v:Value):Prop:=∃ A n c,v = .slice A n c∧Sl encM w A n c l∧InD (fun b=>B<=b) A∧∀ m∈l,Jk m
instance (B:Nat) (l:List Av):Grows (Sq B l):=⟨fun hb ⟨A,n,c,e,h,hi,ht⟩=>⟨A,n,c,e,h.mono hb,hi,ht⟩⟩
theorem Sq.low {B B':Nat} {l:List Av} {w:World} {v:Value} (h:Sq B l w v) (hB:B'<=B):Sq B' l w v:=let ⟨A,n,c,e,h1,h2,h3⟩:=h;⟨A,n,c,e,h1,h2.mono fun _ hx=>Nat.le_trans hB hx,h3⟩
theorem Sq.nil_ (B:Nat) (w:World):Sq B [] w (.slice none 0 0):=⟨none,0,0,rfl,Sl.nil_ _ _,InD.nil_ _,by simp⟩
theorem Ahp {D:Nat->Prop} {w:World} {p:CPl} {c:Ar} {nm:List UInt8} (h:Bg D w p c) (hs:Bd c):Calls Tryz.prog 349 #[Cd p,Ac nm] w (Ret w (Sq w.heap.size (Ct c nm))):=by
 obtain⟨hx,y0,y1,y2⟩:=Nx w p
 have HB:=Avp hx
 have F:=Avp (Adj (nm:=nm) (h.mono hx fun _ x=>x).its hs.mark)
 cases hf:Jp c.items nm with
 | none=>
  have e:Ct c nm=[]:=by unfold Ct;rw[hf]
  rw[e]
  rw[hf] at F
  have Y2:=Avp y2
  clear hx y0 y1 hf e h hs y2
  go_enter Tryz.func349,Tryz.ntmps349
  have y2:=Y2.out
  go_wp2_with fail
  refine F.out.mono ?_
  rintro _ w1 ⟨_,rfl,hb1,rfl⟩
  have HB1:=Avp (HB.out.le hb1)
  clear hb1 y2
  go_wp2
  go_ret
  exact⟨_,rfl,HB1.out.le (by go_grown),Sq.nil_ _ _⟩
 | some x=>
  have e:Ct c nm=x.2:=by unfold Ct;rw[hf]
  rw[e]
  rw[hf] at F
  have Y2:=Avp y2
  clear hx y0 y1 hf e h hs y2
  go_enter Tryz.func349,Tryz.ntmps349
  have y2:=Y2.out
  go_wp2_with fail
  refine F.out.mono ?_
  rintro _ w1 ⟨_,rfl,hb1,y,rfl,rfl,hy⟩
  have HB1:=Avp (HB.out.le hb1)
  have hax:Below w1.heap.size w1 (w1.alloc (.cells (itC y) 246)):=by go_grown
  have HY:=Avp (hy.mono hax fun _ x=>x)
  have HX:=Avp hax
  have HS:=Avp (HB.out.size)
  clear hb1 y2 hy hax
  go_wp2
  go_ret
  exact⟨_,rfl,HB1.out.le HX.out,_,_,_,rfl,HY.out.sl,HY.out.ind.mono fun b hb=>Nat.le_trans HS.out hb,HY.out.tm.1⟩
def Id (q:List Av) (cx:Ctx) (m:Av):Bool:=match q.find? (fun x=>decide (x.d=m.d)) with
 | none=>!Kf cx m.d
 | some y=>decide (0<=Jl m y)
def E9 (ms q:List Av) (cx:Ctx):List Av:=ms.filter (Id q cx)
theorem Tj {ms q:List Av} {cx:Ctx} {k:Nat} {m:Av} (h:ms[k]?=some m) (hk:Id q cx m=true):E9 (ms.take (k+1)) q cx=E9 (ms.take k) q cx++[m]:=by
 rw[Cc h];simp[E9,hk]
theorem Zc {ms q:List Av} {cx:Ctx} {k:Nat} {m:Av} (h:ms[k]?=some m) (hk:Id q cx m=false):E9 (ms.take (k+1)) q cx=E9 (ms.take k) q cx:=by
 rw[Cc h];simp[E9,hk]
theorem Uj (ms q:List Av) (cx:Ctx) (k:Nat):(E9 (ms.take k) q cx).length<=k:=by
 have:=List.length_filter_le (Id q cx) (ms.take k)
 have h2:(ms.take k).length<=k:=by rw[List.length_take];omega
 unfold E9;omega
theorem Arc {x m:Av} {J:Nat} {w:World} (h0:w.cell? ⟨J,0,none⟩=some (.int .i64 m.d.1)) (h1:w.cell? ⟨J,1,none⟩=some (.int .i64 m.d.2)):Calls Tryz.prog 412 #[Dh x,.pointer (some ⟨J,0,none⟩)] w (Ret w (IsB (decide (x.d=m.d)))):=by
 have hb0:Below w.heap.size w (w.alloc (.cells (Fj x) 249)):=by go_grown
 have hj:=World.block_lt_of_cell? w _ h0
 simp only at hj
 obtain⟨r,hr⟩:∃ r,decide (x.d=m.d)=r:=⟨_,rfl⟩
 have hr2:deq (x.d.1,x.d.2) (m.d.1,m.d.2)=r:=by rw[<-hr,Bool.eq_iff_iff,Mw];simp[Prod.ext_iff]
 rw[hr]
 have HB:=Avp hb0;have HR:=Avp hr2
 clear hb0 hr hr2
 go_enter Tryz.func412,Tryz.ntmps412
 go_wp2
 go_ret
 exact Ay HR.out HB.out
theorem Ae1:Enters Tryz.prog 412:=enters_of Tryz.func412 (by kernel_rfl) rfl
theorem T8:Enters Tryz.prog 342:=enters_of Tryz.func342 (by kernel_rfl) rfl
theorem Ua:Enters Tryz.prog 274:=enters_of Tryz.func274 (by kernel_rfl) rfl
theorem Zd {w:World} {N:Nat}:(Instr.fieldAt 249 (.pointer (some ⟨N,0,none⟩)) 0).run Tryz.prog w = .ok (.pointer (some ⟨N,0,none⟩)) w:=by simp[go_sem]
structure Aaq (w:World) (J:Nat) (m:Av):Prop where
 c0:w.cell? ⟨J,0,none⟩=some (.int .i64 m.d.1)
 c1:w.cell? ⟨J,1,none⟩=some (.int .i64 m.d.2)
 c2:w.cell? ⟨J,2,none⟩=some (.int .i64 m.q)
 c3:w.cell? ⟨J,3,none⟩=some (.int .u64 m.t)
theorem Aaq.mono {w w':World} {J:Nat} {m:Av} (h:Aaq w J m) (hb:Below w.heap.size w w'):Aaq w' J m:=⟨Ad hb h.c0,Ad hb h.c1,Ad hb h.c2,Ad hb h.c3⟩
theorem Aaq.new (w:World) (m:Av):Aaq (w.alloc (.cells (Fj m) 249)) w.heap.size m:=⟨by simp[go_sem],by simp[go_sem],by simp[go_sem],by simp[go_sem]⟩
theorem Aug {w0 w:World} {J:Nat} {m:Av} (hb:Below w0.heap.size w0 w) (h:Aaq w0 J m):(Instr.loadAt 249 (.pointer (some ⟨J,0,none⟩))).run Tryz.prog w = .ok (Dh m) w:=by
 have h:=h.mono hb
 have h0:=h.c0;have h1:=h.c1;have h2:=h.c2;have h3:=h.c3
 simp[go_sem,h0,h1,h2,h3]
def Asn (w:World) (n:Nat) (ms q:List Av) (cx:Ctx) (v i:Value) (wr:World):Prop:=∃ k:Nat,i = .int .i64 k∧k<=n∧Below w.heap.size w wr∧Ag encM 249 wr w.heap.size v (E9 (ms.take k) q cx)
theorem Apo {A A2:Option Addr} {n c n2 c2:Nat} {ms q:List Av} {p:CPl} {cx:Ctx} {w:World} (h:Sl encM w A n c ms) (h2:Sl encM w A2 n2 c2 q) (hc:Con w p.A p.n p.ca p.B p.m p.cb cx) (hs:Small n) :
  Calls Tryz.prog 350 #[.slice A n c,.slice A2 n2 c2,Alm p] w (Ret w (M0 encM 249 w.heap.size (E9 ms q cx))):=by
 obtain⟨N,hN⟩:∃ N,N=w.heap.size:=⟨_,rfl⟩
 have EN:=Avp hN
 have hb0:Below w.heap.size w (w.alloc (.cells #[.slice p.A p.n p.ca,.slice p.B p.m p.cb] 138)):=by go_grown
 have q0:(w.alloc (.cells #[.slice p.A p.n p.ca,.slice p.B p.m p.cb] 138)).cell? ⟨N,0,none⟩=some (.slice p.A p.n p.ca):=by rw[hN];simp[go_sem]
 have q1:(w.alloc (.cells #[.slice p.A p.n p.ca,.slice p.B p.m p.cb] 138)).cell? ⟨N,1,none⟩=some (.slice p.B p.m p.cb):=by rw[hN];simp[go_sem]
 have HB0:=Avp hb0;have Q0:=Avp q0;have Q1:=Avp q1
 have H:=Avp h;have H2:=Avp h2;have HC:=Avp hc;have LS:=Avp hs.out;have HL:=Avp h.len
 have hbig:=h.big
 clear h h2 hc hs hb0 q0 q1
 go_enter Tryz.func350,Tryz.ntmps350
 go_wp2
 rw[<-hN]
 clear hN
 generalize w.alloc (.cells #[.slice p.A p.n p.ca,.slice p.B p.m p.cb] 138)=w0 at *
 go_loopw [7,13] (fun v i wr=>Asn w0 n ms q cx v i wr) (fun _ i _=>n - (intOf i).toNat)
 case atStart=>exact⟨0,rfl,Nat.zero_le _,Below.refl _ _,Ag.nil_ _ _ _ _⟩
 case round=>
  obtain⟨k,rfl,hk,hbr,hr⟩:=hrel
  have HR0:=Avp hbr;have HR:=Avp (HB0.out.le hbr);have R:=Avp hr;have LK:=Avp hk
  clear hbr hr hk
  by_cases hlt:k<n
  ·obtain⟨b,o,m,hA,hbl,hm,_,k0,k1,k2,k3⟩:=(H.out.mono HR.out).mark hlt
   have hix:=(show(Instr.indexAt 244 (.slice A n c) (.int .i64 (k:Int))).run Tryz.prog wr = .ok (.pointer (some ⟨b,o+k*4,none⟩)) wr by rw[hA];simp[go_sem,hlt])
   have LT:=Avp hlt;have HM:=Avp hm
   have MA:=Avp (Aaq.new wr m)
   have ha:Below wr.heap.size wr (wr.alloc (.cells (Fj m) 249)):=by go_grown
   have HX0:=Avp (HR0.out.le ha)
   have HW0:=Avp (HR.out.le ha)
   have R0:=Avp (R.out.mono ha)
   have CI:=Avp (Ady 412 #[.pointer (some ⟨wr.heap.size,0,none⟩)] (fun x=>decide (x.d=m.d)) A2 n2 c2 q _ ((H2.out.mono HR.out).mono ha) Ae1 (fun w' hw' x _=>Arc (Ad hw' MA.out.c0) (Ad hw' MA.out.c1)))
   clear hm hA ha
   rcases Oc (fun x:Av=>decide (x.d=m.d)) q 0 with⟨h1,h3⟩ | ⟨i,y,h1,h4,h3⟩
   ·rw[h1] at CI
    have hkp:Id q cx m = !Kf cx m.d:=by unfold Id;rw[h3]
    clear h1 h3
    cases hh:Kf cx m.d with
    | true=>
     have HK:=Avp (show Id q cx m=false by rw[hkp,hh];rfl)
     have HH:=Avp hh
     clear hkp hh
     go_wp2_with fail
     generalize hJ:wr.heap.size=J at *
     refine CI.out.mono ?_
     rintro _ w1 ⟨_,rfl,hb1,rfl⟩
     have MA1:=Avp (MA.out.mono hb1)
     have HX1:=Avp (HX0.out.le hb1)
     have HW1:=Avp (HW0.out.le hb1)
     have R1:=Avp (R0.out.mono hb1)
     clear hb1 k0 k1 k2 k3 hix
     go_wp2_with fail
     refine Am mixed (by kernel_rfl) ?_
     refine Ab.step (Ob.move Aa.free Has.oldIs) ?_
     refine Ab.step (Ob.binV Aa.free (Has.new 0 0) (Has.cst _) (fun w1=>Ji true (by decide))) ?_
     refine Ab.step (Ob.move Aa.free (Has.new 1 0)) ?_
     refine Ab.step (Ob.loadV (Aa.on 2 0) Has.oldIs (fun w1 hb1=>E5 hb1 (Ad HX1.out Q0.out) (Ad HX1.out Q1.out))) ?_
     refine Ab.step (Ob.fieldV (Aa.on 2 1) Has.oldIs (fun w1=>Zd)) ?_
     refine Ab.step (Ob.loadV (Aa.on 2 2) (Has.new 4 0) (fun w1 hb1=>Bt hb1 MA1.out.c0 MA1.out.c1)) ?_
     refine Ab.step (Ob.call2V (Aa.on 2 3) Ua (Has.new 3 2) (Has.new 5 0) (fun w1 hb1=>HH.out ▸ Ao8 _ _ _ _ _ _ _ _ _ _ (HC.out.mono ((HB0.out.le HX1.out).le hb1)))) ?_
     refine Ab.step (Ob.not (Aa.on 2 4) (Has.new 6 0)) ?_
     refine Ab.step (Ob.pickT Aa.free (Has.new 2 5) (Has.new 7 0)) ?_
     refine Ab.step (Ob.move Aa.free (Has.new 8 0)) ?_
     refine Ab.step (Ob.move (Aa.on 9 0) Has.oldIs) ?_
     refine Ab.step (Ob.binV (Aa.on 9 1) (Has.new 10 0) (Has.cst _) (fun w1=>Jc false (by decide))) ?_
     refine Ab.step (Ob.move (Aa.on 9 2) (Has.new 11 0)) ?_
     refine Ab.step (Ob.off 12 0) ?_
     refine Ab.step (Ob.off 12 1) ?_
     refine Ab.step (Ob.off 12 2) ?_
     refine Ab.step (Ob.off 12 3) ?_
     refine Ab.step (Ob.off 12 4) ?_
     refine Ab.step (Ob.off 12 5) ?_
     refine Ab.step (Ob.off 12 6) ?_
     refine Ab.step (Ob.pickF (Aa.on 9 10) (Has.new 12 7) (Has.cst _)) ?_
     refine Ab.step (Ob.pickF Aa.free (Has.new 9 11) (Has.new 20 0)) ?_
     simp only[Ab,Ao,List.map,Bq,List.reverse_cons,List.reverse_nil,List.nil_append,List.cons_append]
     intro wE hE
     iterate 22 (rintro _ rfl)
     simp only[Act.put,List.setIfInBounds_toArray,List.set_cons_zero,List.set_cons_succ]
     go_wp2
     go_roundw
     case rel=>exact⟨k+1,by simp,LT.out,HX1.out.le hE,by rw[Zc HM.out HK.out];exact R1.out.mono hE⟩
     case measure=>simp[intOf];have:=LT.out;omega
    | false=>
     have HK:=Avp (show Id q cx m=true by rw[hkp,hh];rfl)
     have HH:=Avp hh
     clear hkp hh
     go_wp2_with fail
     generalize hJ:wr.heap.size=J at *
     refine CI.out.mono ?_
     rintro _ w1 ⟨_,rfl,hb1,rfl⟩
     have MA1:=Avp (MA.out.mono hb1)
     have HX1:=Avp (HX0.out.le hb1)
     have HW1:=Avp (HW0.out.le hb1)
     have R1:=Avp (R0.out.mono hb1)
     clear hb1 k0 k1 k2 k3 hix
     go_wp2_with fail
     refine Am mixed (by kernel_rfl) ?_
     refine Ab.step (Ob.move Aa.free Has.oldIs) ?_
     refine Ab.step (Ob.binV Aa.free (Has.new 0 0) (Has.cst _) (fun w1=>Ji true (by decide))) ?_
     refine Ab.step (Ob.move Aa.free (Has.new 1 0)) ?_
     refine Ab.step (Ob.loadV (Aa.on 2 0) Has.oldIs (fun w1 hb1=>E5 hb1 (Ad HX1.out Q0.out) (Ad HX1.out Q1.out))) ?_
     refine Ab.step (Ob.fieldV (Aa.on 2 1) Has.oldIs (fun w1=>Zd)) ?_
     refine Ab.step (Ob.loadV (Aa.on 2 2) (Has.new 4 0) (fun w1 hb1=>Bt hb1 MA1.out.c0 MA1.out.c1)) ?_
     refine Ab.step (Ob.call2V (Aa.on 2 3) Ua (Has.new 3 2) (Has.new 5 0) (fun w1 hb1=>HH.out ▸ Ao8 _ _ _ _ _ _ _ _ _ _ (HC.out.mono ((HB0.out.le HX1.out).le hb1)))) ?_
     refine Ab.step (Ob.not (Aa.on 2 4) (Has.new 6 0)) ?_
     refine Ab.step (Ob.pickT Aa.free (Has.new 2 5) (Has.new 7 0)) ?_
     refine Ab.step (Ob.move Aa.free (Has.new 8 0)) ?_
     refine Ab.step (Ob.off 9 0) ?_
     refine Ab.step (Ob.off 9 1) ?_
     refine Ab.step (Ob.off 9 2) ?_
     refine Ab.step (Ob.offU 12 0) ?_
     refine Ab.step (Ob.offU 12 1) ?_
     refine Ab.step (Ob.offU 12 2) ?_
     refine Ab.step (Ob.offU 12 3) ?_
     refine Ab.step (Ob.offU 12 4) ?_
     refine Ab.step (Ob.offU 12 5) ?_
     refine Ab.step (Ob.offU 12 6) ?_
     refine Ab.step (Ob.off 9 10) ?_
     refine Ab.step (Ob.pickT Aa.free (Has.new 9 11) (Has.cst _)) ?_
     simp only[Ab,Ao,List.map,Bq,List.reverse_cons,List.reverse_nil,List.nil_append,List.cons_append]
     intro wE hE
     iterate 22 (rintro _ rfl)
     simp only[Act.put,List.setIfInBounds_toArray,List.set_cons_zero,List.set_cons_succ]
     have HW2:=Avp (HW1.out.le hE);have HX2:=Avp (HX1.out.le hE);have R2:=Avp (R1.out.mono hE)
     have m0:=Ad hE MA1.out.c0;have m1:=Ad hE MA1.out.c1;have m2:=Ad hE MA1.out.c2;have m3:=Ad hE MA1.out.c3
     have D1:=Avp (Sl.new encM wE [m] (by simp) (Fj m) rfl 249)
     have BN:=Avp (show w.heap.size<=w0.heap.size from HB0.out.size)
     clear hE
     go_wp2_with (first
      | (at_builtin;refine Aj (B:=w0.heap.size) (l:=E9 (ms.take k) q cx) (k:=[m]) Aba rfl rfl Tryz.underlying244 rfl rfl (R2.out.mono (by go_grown)) D1.out (by have:=Uj ms q cx k;have:=LS.out;have:=LT.out;simp;omega) (by have:=HX2.out.size;have:=BN.out;simp;omega) ?_;intro v2 w9 o2 g2 h2;have O2:=Avp o2;have G2:=Avp g2;clear o2 g2 h2)
      | fail)
     go_roundw
     case rel=>exact⟨k+1,by simp,LT.out,(HX2.out.le (show Below wE.heap.size wE _ by go_grown)).grown G2.out (by have:=HX2.out.size;simp;omega) (fun q hq=>(R2.out.own q hq).1),by rw[Tj HM.out HK.out];exact O2.out⟩
     case measure=>simp[intOf];have:=LT.out;omega
   ·rw[h1,Nat.zero_add] at CI
    have hkp:Id q cx m=decide (0<=Jl m y):=by unfold Id;rw[h3]
    have hi2:i<n2:=by have:=(List.getElem?_eq_some_iff.1 h4).1;have:=H2.out.len;omega
    obtain⟨b2,o2,y',hA2,hbl2,hy,_,_⟩:=H2.out.at_ hi2
    obtain rfl:y=y':=by rw[h4] at hy;exact Option.some.inj hy
    obtain⟨g2',o2',_,e2,_,_,_,cy⟩:=H2.out.at_ hi2
    have CY:=Avp (show ∀ j u,(encM.enc y)[j]?=some u->w.cell? ⟨b2,o2+i*4+j,none⟩=some u by
     obtain⟨_,_,y',e3,_,hy3,_,c3⟩:=H2.out.at_ hi2
     rw[hA2] at e3;cases e3
     rw[h4] at hy3;cases hy3
     exact c3)
    have HI2:=Avp hi2
    subst hA2
    clear h1 h3 h4 hi2 hy e2 cy hbl2
    cases hh:decide (0<=Jl m y) with
    | true=>
     have HK:=Avp (show Id q cx m=true by rw[hkp,hh])
     have HH:=Avp hh
     clear hkp hh
     go_wp2_with fail
     generalize hJ:wr.heap.size=J at *
     refine CI.out.mono ?_
     rintro _ w1 ⟨_,rfl,hb1,rfl⟩
     have MA1:=Avp (MA.out.mono hb1)
     have HX1:=Avp (HX0.out.le hb1)
     have HW1:=Avp (HW0.out.le hb1)
     have R1:=Avp (R0.out.mono hb1)
     clear hb1 k0 k1 k2 k3 hix
     go_wp2_with fail
     refine Am mixed (by kernel_rfl) ?_
     refine Ab.step (Ob.move Aa.free Has.oldIs) ?_
     refine Ab.step (Ob.binV Aa.free (Has.new 0 0) (Has.cst _) (fun w1=>Ji false (by simp))) ?_
     refine Ab.step (Ob.move Aa.free (Has.new 1 0)) ?_
     refine Ab.step (Ob.off 2 0) ?_
     refine Ab.step (Ob.off 2 1) ?_
     refine Ab.step (Ob.off 2 2) ?_
     refine Ab.step (Ob.off 2 3) ?_
     refine Ab.step (Ob.off 2 4) ?_
     refine Ab.step (Ob.pickF Aa.free (Has.new 2 5) (Has.cst _)) ?_
     refine Ab.step (Ob.move Aa.free (Has.new 8 0)) ?_
     refine Ab.step (Ob.move (Aa.on 9 0) Has.oldIs) ?_
     refine Ab.step (Ob.binV (Aa.on 9 1) (Has.new 10 0) (Has.cst _) (fun w1=>Jc true (by simp))) ?_
     refine Ab.step (Ob.move (Aa.on 9 2) (Has.new 11 0)) ?_
     refine Ab.step (Ob.loadV (Aa.on 12 0) Has.oldIs (fun w1 hb1=>Aug hb1 MA1.out)) ?_
     refine Ab.step (Ob.move (Aa.on 12 1) Has.oldIs) ?_
     refine Ab.step (Ob.move (Aa.on 12 2) Has.oldIs) ?_
     refine Ab.step (Ob.indexV (Aa.on 12 3) (Has.new 14 1) (Has.new 15 0) (fun w1=>ixM HI2.out)) ?_
     refine Ab.step (Ob.loadV (Aa.on 12 4) (Has.new 16 0) (fun w1 hb1=>ldM (Below.refl _ _) (fun j u hu=>Ad hb1 (Ad HW1.out (CY.out j u hu))))) ?_
     refine Ab.step (Ob.call2V (Aa.on 12 5) T8 (Has.new 13 4) (Has.new 17 0) (fun w1 hb1=>Qp m y w1)) ?_
     refine Ab.step (Ob.binV (Aa.on 12 6) (Has.new 18 0) (Has.cst _) (fun w1=>Jc true HH.out)) ?_
     refine Ab.step (Ob.pickT (Aa.on 9 10) (Has.new 12 7) (Has.new 19 0)) ?_
     refine Ab.step (Ob.pickF Aa.free (Has.new 9 11) (Has.new 20 0)) ?_
     simp only[Ab,Ao,List.map,Bq,List.reverse_cons,List.reverse_nil,List.nil_append,List.cons_append]
     intro wE hE
     iterate 22 (rintro _ rfl)
     simp only[Act.put,List.setIfInBounds_toArray,List.set_cons_zero,List.set_cons_succ]
     have HW2:=Avp (HW1.out.le hE);have HX2:=Avp (HX1.out.le hE);have R2:=Avp (R1.out.mono hE)
     have m0:=Ad hE MA1.out.c0;have m1:=Ad hE MA1.out.c1;have m2:=Ad hE MA1.out.c2;have m3:=Ad hE MA1.out.c3
     have D1:=Avp (Sl.new encM wE [m] (by simp) (Fj m) rfl 249)
     have BN:=Avp (show w.heap.size<=w0.heap.size from HB0.out.size)
     clear hE
     go_wp2_with (first
      | (at_builtin;refine Aj (B:=w0.heap.size) (l:=E9 (ms.take k) q cx) (k:=[m]) Aba rfl rfl Tryz.underlying244 rfl rfl (R2.out.mono (by go_grown)) D1.out (by have:=Uj ms q cx k;have:=LS.out;have:=LT.out;simp;omega) (by have:=HX2.out.size;have:=BN.out;simp;omega) ?_;intro v2 w9 o2 g2 h2;have O2:=Avp o2;have G2:=Avp g2;clear o2 g2 h2)
      | fail)
     go_roundw
     case rel=>exact⟨k+1,by simp,LT.out,(HX2.out.le (show Below wE.heap.size wE _ by go_grown)).grown G2.out (by have:=HX2.out.size;simp;omega) (fun q hq=>(R2.out.own q hq).1),by rw[Tj HM.out HK.out];exact O2.out⟩
     case measure=>simp[intOf];have:=LT.out;omega
    | false=>
     have HK:=Avp (show Id q cx m=false by rw[hkp,hh])
     have HH:=Avp hh
     clear hkp hh
     go_wp2_with fail
     generalize hJ:wr.heap.size=J at *
     refine CI.out.mono ?_
     rintro _ w1 ⟨_,rfl,hb1,rfl⟩
     have MA1:=Avp (MA.out.mono hb1)
     have HX1:=Avp (HX0.out.le hb1)
     have HW1:=Avp (HW0.out.le hb1)
     have R1:=Avp (R0.out.mono hb1)
     clear hb1 k0 k1 k2 k3 hix
     go_wp2_with fail
     refine Am mixed (by kernel_rfl) ?_
     refine Ab.step (Ob.move Aa.free Has.oldIs) ?_
     refine Ab.step (Ob.binV Aa.free (Has.new 0 0) (Has.cst _) (fun w1=>Ji false (by simp))) ?_
     refine Ab.step (Ob.move Aa.free (Has.new 1 0)) ?_
     refine Ab.step (Ob.off 2 0) ?_
     refine Ab.step (Ob.off 2 1) ?_
     refine Ab.step (Ob.off 2 2) ?_
     refine Ab.step (Ob.off 2 3) ?_
     refine Ab.step (Ob.off 2 4) ?_
     refine Ab.step (Ob.pickF Aa.free (Has.new 2 5) (Has.cst _)) ?_
     refine Ab.step (Ob.move Aa.free (Has.new 8 0)) ?_
     refine Ab.step (Ob.move (Aa.on 9 0) Has.oldIs) ?_
     refine Ab.step (Ob.binV (Aa.on 9 1) (Has.new 10 0) (Has.cst _) (fun w1=>Jc true (by simp))) ?_
     refine Ab.step (Ob.move (Aa.on 9 2) (Has.new 11 0)) ?_
     refine Ab.step (Ob.loadV (Aa.on 12 0) Has.oldIs (fun w1 hb1=>Aug hb1 MA1.out)) ?_
     refine Ab.step (Ob.move (Aa.on 12 1) Has.oldIs) ?_
     refine Ab.step (Ob.move (Aa.on 12 2) Has.oldIs) ?_
     refine Ab.step (Ob.indexV (Aa.on 12 3) (Has.new 14 1) (Has.new 15 0) (fun w1=>ixM HI2.out)) ?_
     refine Ab.step (Ob.loadV (Aa.on 12 4) (Has.new 16 0) (fun w1 hb1=>ldM (Below.refl _ _) (fun j u hu=>Ad hb1 (Ad HW1.out (CY.out j u hu))))) ?_
     refine Ab.step (Ob.call2V (Aa.on 12 5) T8 (Has.new 13 4) (Has.new 17 0) (fun w1 hb1=>Qp m y w1)) ?_
     refine Ab.step (Ob.binV (Aa.on 12 6) (Has.new 18 0) (Has.cst _) (fun w1=>Jc false HH.out)) ?_
     refine Ab.step (Ob.pickT (Aa.on 9 10) (Has.new 12 7) (Has.new 19 0)) ?_
     refine Ab.step (Ob.pickF Aa.free (Has.new 9 11) (Has.new 20 0)) ?_
     simp only[Ab,Ao,List.map,Bq,List.reverse_cons,List.reverse_nil,List.nil_append,List.cons_append]
     intro wE hE
     iterate 22 (rintro _ rfl)
     simp only[Act.put,List.setIfInBounds_toArray,List.set_cons_zero,List.set_cons_succ]
     go_wp2
     go_roundw
     case rel=>exact⟨k+1,by simp,LT.out,HX1.out.le hE,by rw[Zc HM.out HK.out];exact R1.out.mono hE⟩
     case measure=>simp[intOf];have:=LT.out;omega
  ·obtain rfl:k=n:=by have:=LK.out;omega
   have r:=R.out
   rw[HL.out,List.take_length] at r
   have R9:=Avp r
   clear r
   go_wp2
   go_ret
   exact⟨_,rfl,HR.out,R9.out.low HB0.out.size⟩
theorem Aoq {a b:Nat} (h1:Pp a b=0):a=b:=by
 unfold Pp at h1
 by_cases h:a<b
 ·rw[if_pos h] at h1;cases h1
 ·rw[if_neg h] at h1
  by_cases h':b<a
  ·rw[if_pos h'] at h1;cases h1
  ·omega
theorem Sc {a b:Int} (h1:Ee a b=0):a=b:=by
 unfold Ee at h1
 by_cases h:a<b
 ·rw[if_pos h] at h1;cases h1
 ·rw[if_neg h] at h1
  by_cases h':b<a
  ·rw[if_pos h'] at h1;cases h1
  ·omega
theorem Ahc (a b:Nat):Pp b a = - Pp a b:=by unfold Pp;split <;> split <;> (try omega) <;> rfl
theorem Rb (a b:Int):Ee b a = - Ee a b:=by unfold Ee;split <;> split <;> (try omega) <;> rfl
theorem Afi {a b:Av} (h1:0<=Jl a b) (h2:0<=Jl b a):a=b:=by
 unfold Jl at h1 h2
 by_cases he:a=b
 ·exact he
 ·rw[if_neg he] at h1
  rw[if_neg (fun e=>he e.symm)] at h2
  rw[Ahc a.t b.t,Rb a.d.1 b.d.1,Rb a.d.2 b.d.2,Rb a.q b.q] at h2
  have e1:=@Aoq a.t b.t;have e2:=@Sc a.d.1 b.d.1;have e3:=@Sc a.d.2 b.d.2;have e4:=@Sc a.q b.q
  have:Pp a.t b.t=0∧Ee a.d.1 b.d.1=0∧Ee a.d.2 b.d.2=0∧Ee a.q b.q=0:=by
   clear e1 e2 e3 e4
   generalize Pp a.t b.t=x at *;generalize Ee a.d.1 b.d.1=y at *;generalize Ee a.d.2 b.d.2=z at *;generalize Ee a.q b.q=u at *
   unfold or4 orI at h1 h2
   by_cases hx:x=0
   ·subst hx
    by_cases hy:y=0
    ·subst hy
     by_cases hz:z=0
     ·subst hz
      by_cases hu:u=0
      ·exact⟨rfl,rfl,rfl,hu⟩
      ·simp[hu] at h1 h2;omega
     ·simp[hz] at h1 h2;omega
    ·simp[hy] at h1 h2;omega
   ·simp[hx] at h1 h2;omega
  obtain⟨f1,f2,f3,f4⟩:=this
  cases a with
  | mk d q t=>cases b with
   | mk d' q' t'=>
    have:=e1 f1;have:=e2 f2;have:=e3 f3;have:=e4 f4
    simp only at *
    subst_vars
    congr 1
    exact Prod.ext (e2 f2) (e3 f3)
def Ta (l:List Av):Prop:=∀ x,x∈l->∀ y,y∈l->x.d=y.d->x=y
def mle (x y:Av):Bool:=!mlt y x
def Pf (l:List Av):List Av:=l.mergeSort mle
theorem Afn (a b c:Av) (h1:mle a b=true) (h2:mle b c=true):mle a c=true:=by
 unfold mle at *
 rw[Bool.not_eq_true'] at *
 exact Ku c a ▸ swoMark.ntrans c b a (Ku c b ▸ h2) (Ku b a ▸ h1)
theorem Af1 (a b:Av):(mle a b||mle b a)=true:=by
 unfold mle
 cases h:mlt b a with
 | false=>rfl
 | true=>
  cases h':mlt a b with
  | false=>rfl
  | true=>
   have:=swoMark.trans b a b (by rw[Ku];exact h) (by rw[Ku];exact h')
   rw[swoMark.irrefl] at this;cases this
theorem Ag9 {a b:Av} (h1:mlt a b=false) (h2:mlt b a=false):a.d=b.d:=by
 unfold mlt at *
 have n1:¬Bp a.d b.d=true:=by rw[h1];simp
 have n2:¬Bp b.d a.d=true:=by rw[h2];simp
 rw[Dj] at n1 n2
 exact Prod.ext (by omega) (by omega)
theorem Rg.marks {l l':List Av} (h:Rg mlt l l') (h1:Ta l):l'=Pf l:=by
 refine List.Perm.eq_of_pairwise (le:=fun a b=>mlt b a=false) ?_ h.2 ?_ (h.1.trans (List.mergeSort_perm l mle).symm)
 ·intro a b ha hb h2 h3
  exact h1 a (h.1.mem_iff.1 ha) b ((List.mergeSort_perm l mle).mem_iff.1 hb) (Ag9 h3 h2)
 ·have:=List.pairwise_mergeSort Afn Af1 l
  refine this.imp ?_
  intro a b hab
  unfold mle at hab
  rwa [Bool.not_eq_true'] at hab
def Gt (a b:Ar) (nm:List UInt8):List Av:=E9 (Ct a nm) (Ct b nm) b.ctx++E9 (Ct b nm) (Ct a nm) a.ctx
def Il (a b:Ar) (nm:List UInt8):As:=(nm,Cw (Pf (Gt a b nm)))
theorem Ach {q:List Av} {cx:Ctx} {m:Av} (h:Id q cx m=true) {y:Av} (hy:q.find? (fun x=>decide (x.d=m.d))=some y):0<=Jl m y:=by
 unfold Id at h;rw[hy] at h;exact of_decide_eq_true h
theorem Ug {q:List Av} (h:Ta q) {y:Av} (hy:y∈q) {d:Dot} (hd:y.d=d):q.find? (fun x=>decide (x.d=d))=some y:=by
 cases hf:q.find? (fun x=>decide (x.d=d)) with
 | none=>have:=List.find?_eq_none.1 hf y hy;simp[hd] at this
 | some z=>
  have h1:=List.mem_of_find?_eq_some hf
  have h2:=List.find?_some hf
  rw[h z h1 y hy (by rw[hd];exact of_decide_eq_true h2)]
theorem Aeh {a b:Ar} {nm:List UInt8} (ha:Ta (Ct a nm)) (hb:Ta (Ct b nm)):Ta (Gt a b nm):=by
 have cross:∀ (p q:List Av) (cp cq:Ctx),Ta p->Ta q->∀ x,x∈E9 p q cq->∀ y,y∈E9 q p cp->x.d=y.d->x=y:=by
  intro p q cp cq hp hq x hx y hy hd
  obtain⟨hx1,hx2⟩:=List.mem_filter.1 hx
  obtain⟨hy1,hy2⟩:=List.mem_filter.1 hy
  exact Afi (Ach hx2 (Ug hq hy1 hd.symm)) (Ach hy2 (Ug hp hx1 hd))
 intro x hx y hy hd
 unfold Gt at hx hy
 rcases List.mem_append.1 hx with h1 | h1 <;> rcases List.mem_append.1 hy with h2 | h2
 ·exact ha x (List.mem_filter.1 h1).1 y (List.mem_filter.1 h2).1 hd
 ·exact cross _ _ _ _ ha hb x h1 y h2 hd
 ·exact(cross _ _ _ _ ha hb y h2 x h1 hd.symm).symm
 ·exact hb x (List.mem_filter.1 h1).1 y (List.mem_filter.1 h2).1 hd
def Aqg (B:Nat) (s:As) (w:World) (v:Value):Prop:=∃ e:ItE,v=itV e∧e.s=s∧Lu (fun b=>B<=b) w e
theorem Ab0 {α:Type} [DecidableEq α] (acc:List α) (d:α):∀ x∈Gm acc d,x∈acc∨x=d:=by
 intro x hx;unfold Gm at hx;split at hx
 ·exact .inl hx
 ·simpa using hx
theorem Tf {α:Type} [DecidableEq α] (l:List α):∀ x∈Cw l,x∈l:=by
 have:∀ (l acc:List α),∀ x∈l.foldl Gm acc,x∈acc∨x∈l:=by
  intro l
  induction l with
  | nil=>intro acc x hx;exact .inl hx
  | cons a t ih=>
   intro acc x hx
   rcases ih _ x hx with h | h
   ·rcases Ab0 acc a x h with h | h
    ·exact .inl h
    ·exact .inr (by rw[h];exact List.mem_cons_self)
   ·exact .inr (List.mem_cons_of_mem _ h)
 intro x hx
 rcases this l [] x hx with h | h
 ·cases h
 ·exact h
theorem No {α:Type} [DecidableEq α] (l:List α):(Cw l).length<=l.length:=by
 have:∀ (l acc:List α),(l.foldl Gm acc).length<=acc.length+l.length:=by
  intro l
  induction l with
  | nil=>intro acc;simp
  | cons a t ih=>
   intro acc
   have h1:=ih (Gm acc a)
   have h2:(Gm acc a).length<=acc.length+1:=by unfold Gm;split <;> simp
   simp only[List.foldl_cons,List.length_cons]
   omega
 have h:=this l []
 simp only[List.length_nil,Nat.zero_add] at h
 exact h
theorem Jh {c:Ar} {nm:List UInt8}:(Ct c nm).length<=Ch c:=by
 unfold Ct
 cases hf:Jp c.items nm with
 | none=>simp
 | some x=>have:=J7 (List.mem_of_find?_eq_some hf);unfold Ch;show x.2.length<=_;omega
theorem Bx.low {w w':World} {J B:Nat} {cs:List Value} (h:Bx w J cs) (hb:Below B w w') (hJ:J<B):Bx w' J cs:=h.same (hb.block J hJ) hb.size
theorem Ab7 {w0 w:World} {N:Nat} {p:CPl} (hb:Below w0.heap.size w0 w) (h0:w0.cell? ⟨N,0,none⟩=some (.slice p.A p.n p.ca)) (h1:w0.cell? ⟨N,1,none⟩=some (.slice p.B p.m p.cb)) (h2:w0.cell? ⟨N,2,none⟩=some (.slice p.C p.k p.cc)):(Instr.loadAt 141 (.pointer (some ⟨N,0,none⟩))).run Tryz.prog w = .ok (Cd p) w:=by
 have c0:=Ad hb h0;have c1:=Ad hb h1;have c2:=Ad hb h2
 simp[go_sem,c0,c1,c2]
structure KAt (w:World) (N:Nat) (p:CPl):Prop where
 c0:w.cell? ⟨N,0,none⟩=some (.slice p.A p.n p.ca)
 c1:w.cell? ⟨N,1,none⟩=some (.slice p.B p.m p.cb)
 c2:w.cell? ⟨N,2,none⟩=some (.slice p.C p.k p.cc)
theorem KAt.mono {w w':World} {N:Nat} {p:CPl} (h:KAt w N p) (hb:Below w.heap.size w w'):KAt w' N p:=⟨Ad hb h.c0,Ad hb h.c1,Ad hb h.c2⟩
theorem KAt.new (w:World) (p:CPl):KAt (w.alloc (.cells (Aw p) 141)) w.heap.size p:=⟨by simp[go_sem],by simp[go_sem],by simp[go_sem]⟩
theorem KAt.load {w0 w:World} {N:Nat} {p:CPl} (h:KAt w0 N p) (hb:Below w0.heap.size w0 w):(Instr.loadAt 141 (.pointer (some ⟨N,0,none⟩))).run Tryz.prog w = .ok (Cd p) w:=Ab7 hb h.c0 h.c1 h.c2
theorem T0:Enters Tryz.prog 349:=enters_of Tryz.func349 (by kernel_rfl) rfl
theorem Tl:Enters Tryz.prog 350:=enters_of Tryz.func350 (by kernel_rfl) rfl
theorem Ak4 {f:FuncId} {args:Array Value} {w:World} {l:List Av} {B:Nat} (hB:B<=w.heap.size) (h:Calls Tryz.prog f args w (Ret w (Sq w.heap.size l))):Calls Tryz.prog f args w (Ret w (Sq B l)):=h.mono fun _ _ ⟨v,e,hb,hr⟩=>⟨v,e,hb,hr.low hB⟩
theorem Pu {α:Type} {e:Enc α} {ty:TypeId} {f:FuncId} {args:Array Value} {w:World} {l:List α} {B:Nat} (hB:B<=w.heap.size) (h:Calls Tryz.prog f args w (Ret w (M0 e ty w.heap.size l))):Calls Tryz.prog f args w (Ret w (M0 e ty B l)):=h.mono fun _ _ ⟨v,e,hb,hr⟩=>⟨v,e,hb,Ag.low hr hB⟩
theorem Ash {D D2:Nat->Prop} {w:World} {p p2:CPl} {a b:Ar} {nm:List UInt8} (h:Bg D w p a) (h2:Bg D2 w p2 b) (hs:Bd a) (hs2:Bd b) (ho:Ta (Gt a b nm)) (hnm:nm.length<=1000000) :
  Calls Tryz.prog 271 #[Cd p,Cd p2,Ac nm] w (Ret w (Aqg w.heap.size (Il a b nm))):=by
 obtain⟨N,hN⟩:∃ N,N=w.heap.size:=⟨_,rfl⟩
 have EN:=Avp hN
 obtain⟨w3,hw3⟩:∃ w3,w3=((w.alloc (.cells (Aw p) 141)).alloc (.cells (Aw p2) 141)).alloc (.cells itZ 246):=⟨_,rfl⟩
 have hb:Below w.heap.size w w3:=by rw[hw3];go_grown
 have k1:KAt w3 N p:=by rw[hw3,hN];exact((KAt.new w p).mono (by go_grown))
 have k2:KAt w3 (N+1) p2:=by rw[hw3,hN];have:=KAt.new (w.alloc (.cells (Aw p) 141)) p2;rw[World.size_alloc] at this;exact this.mono (by go_grown)
 have x3:Bx w3 (N+2) itZ.toList:=by
  rw[hw3,hN];have:=Bx.new ((w.alloc (.cells (Aw p) 141)).alloc (.cells (Aw p2) 141)) itZ 246
  rw[World.size_alloc,World.size_alloc] at this;exact this
 have sz:w3.heap.size=N+3:=by rw[hw3,hN];simp
 have HB:=Avp hb;have K1:=Avp k1;have K2:=Avp k2;have X:=Avp x3;have SZ:=Avp sz
 have H:=Avp (h.mono hb fun _ x=>x);have H2:=Avp (h2.mono hb fun _ x=>x)
 have NB:=Avp (fun w1 (hb1:Below w3.heap.size w3 w1)=>show N+3<=w1.heap.size by rw[<-sz];exact hb1.size)
 have LA:=Avp (show(Ct a nm).length<=200000 from Nat.le_trans Jh hs)
 have LB:=Avp (show(Ct b nm).length<=200000 from Nat.le_trans Jh hs2)
 have HS:=Avp hs;have HS2:=Avp hs2;have HO:=Avp ho;have HNM:=Avp hnm
 have HW3:=Avp hw3
 clear hb k1 k2 x3 sz h h2 hs hs2 ho hnm hw3
 go_enter Tryz.func271,Tryz.ntmps271
 go_wp2_with fail
 rw[<-hN,<-HW3.out]
 clear hN HW3
 refine Am mixed (by kernel_rfl) ?_
 refine Ab.step (Ob.loadV Aa.free Has.oldIs (fun w1 hb1=>K1.out.load hb1)) ?_
 refine Ab.step (Ob.move Aa.free Has.oldIs) ?_
 refine Ab.step (Ob.call2V Aa.free T0 (Has.new 0 1) (Has.new 1 0) (fun w1 hb1=>Ak4 (B:=N+3) (NB.out w1 hb1) (Ahp (H.out.mono hb1 fun _ x=>x) HS.out))) ?_
 refine Ab.step (Ob.loadV Aa.free Has.oldIs (fun w1 hb1=>K2.out.load hb1)) ?_
 refine Ab.step (Ob.move Aa.free Has.oldIs) ?_
 refine Ab.step (Ob.call2V Aa.free T0 (Has.new 3 1) (Has.new 4 0) (fun w1 hb1=>Ak4 (B:=N+3) (NB.out w1 hb1) (Ahp (H2.out.mono hb1 fun _ x=>x) HS2.out))) ?_
 refine Ab.step (Ob.assign Aa.free (Has.new 2 3)) ?_
 refine Ab.step (Ob.assign Aa.free (Has.new 5 1)) ?_
 simp only[Ab,Ao,List.map,Bq,List.reverse_cons,List.reverse_nil,List.nil_append,List.cons_append]
 intro wE hE
 iterate 2 (rintro _ rfl)
 rintro _ _h2
 iterate 2 (rintro _ rfl)
 rintro _ _h5
 rintro _ ⟨A1,n1,c1,rfl,s1,i1,t1⟩
 rintro _ ⟨A2,n2,c2,rfl,s2,i2,t2⟩
 simp only[Act.put,List.setIfInBounds_toArray,List.set_cons_zero,List.set_cons_succ]
 have l1:n1<=200000:=by rw[s1.len];exact LA.out
 have l2:n2<=200000:=by rw[s2.len];exact LB.out
 have S1:=Avp s1;have S2:=Avp s2;have L1:=Avp l1;have L2:=Avp l2
 have TM:=Avp (show ∀ m∈Il a b nm |>.2,Jk m by
  intro m hm
  have hm2:=(List.mergeSort_perm _ mle).mem_iff.1 (Tf _ m hm)
  rcases List.mem_append.1 hm2 with h9 | h9
  ·exact t1 m (List.mem_filter.1 h9).1
  ·exact t2 m (List.mem_filter.1 h9).1)
 replace K1:=Avp (K1.out.mono hE);replace K2:=Avp (K2.out.mono hE);replace X:=Avp (X.out.mono hE);replace HB:=Avp (HB.out.le hE)
 replace NB:=Avp (fun w1 (hb1:Below wE.heap.size wE w1)=>NB.out w1 (hE.le hb1))
 have HA:=Avp (H.out.mono hE fun _ x=>x);have HA2:=Avp (H2.out.mono hE fun _ x=>x)
 clear s1 s2 i1 i2 t1 t2 l1 l2 hE H H2 _h2 _h5
 generalize wE=w4 at *
 go_wp2_with fail
 refine Bu 10 mixed (by kernel_rfl) (by kernel_rfl) ?_
 refine Al.step (Ob.move Aa.free Has.oldIs) ?_
 refine Al.step (Ob.move Aa.free Has.oldIs) ?_
 refine Al.step (Ob.fieldV Aa.free Has.oldIs (fun w1=>Gj)) ?_
 refine Al.step (Ob.loadV Aa.free (Has.new 2 0) (fun w1 hb1=>E5 hb1 K2.out.c0 K2.out.c1)) ?_
 refine Al.step (Ob.call3V Aa.free Tl (Has.new 0 3) (Has.new 1 2) (Has.new 3 0) (fun w1 hb1=>Pu (B:=N+3) (NB.out w1 hb1) (Apo (S1.out.mono hb1) (S2.out.mono hb1) (HA2.out.con.mono hb1) (by have:=L1.out;unfold Small;omega)))) ?_
 refine Al.step (Ob.move Aa.free Has.oldIs) ?_
 refine Al.step (Ob.move Aa.free Has.oldIs) ?_
 refine Al.step (Ob.fieldV Aa.free Has.oldIs (fun w1=>Gj)) ?_
 refine Al.step (Ob.loadV Aa.free (Has.new 7 0) (fun w1 hb1=>E5 hb1 K1.out.c0 K1.out.c1)) ?_
 refine Al.step (Ob.call3V Aa.free Tl (Has.new 5 3) (Has.new 6 2) (Has.new 8 0) (fun w1 hb1=>Pu (B:=N+3) (NB.out w1 hb1) (Apo (S2.out.mono hb1) (S1.out.mono hb1) (HA.out.con.mono hb1) (by have:=L2.out;unfold Small;omega)))) ?_
 simp only[Al,Ao,List.map,Bq,List.reverse_cons,List.reverse_nil,List.nil_append,List.cons_append,List.take_succ_cons,List.take_zero,List.drop_succ_cons,List.drop_zero]
 intro wE hE
 iterate 4 (rintro _ rfl)
 rintro _ r4
 iterate 4 (rintro _ rfl)
 rintro _ r9
 simp only[Act.put,List.setIfInBounds_toArray,List.set_cons_zero,List.set_cons_succ]
 obtain⟨A9,c9,rfl,s9⟩:=Ag.sl r9
 have SL9:=Avp s9;have R4:=Avp r4
 have q1:(E9 (Ct a nm) (Ct b nm) b.ctx).length<=200000:=Nat.le_trans (List.length_filter_le _ _) LA.out
 have q2:(E9 (Ct b nm) (Ct a nm) a.ctx).length<=200000:=Nat.le_trans (List.length_filter_le _ _) LB.out
 have Q:=Avp (And.intro q1 q2)
 replace X:=Avp (X.out.mono hE);replace HB:=Avp (HB.out.le hE)
 have NB2:=Avp (show N+3<=wE.heap.size from NB.out _ hE)
 clear r4 r9 s9 q1 q2 hE NB K1 K2 HA HA2 S1 S2
 go_wp2_with (first
  | (at_builtin;refine Aj (B:=N+3) (l:=E9 (Ct a nm) (Ct b nm) b.ctx) (k:=E9 (Ct b nm) (Ct a nm) a.ctx) Aba rfl rfl Tryz.underlying244 rfl rfl R4.out SL9.out (by have:=Q.out.1;have:=Q.out.2;simp;omega) NB2.out ?_;intro v2 w9 o2 g2 _;have O2:=Avp o2;have G2:=Avp g2;clear o2 g2)
  | fail)
 have HB9:=Avp ((Below.refl (N+3) wE).grown G2.out NB2.out (fun q hq=>(R4.out.own q hq).1))
 have O9:=Avp (show Ag encM 249 w9 (N+3) v2 (Gt a b nm) from O2.out)
 have LN:=Avp (show(Gt a b nm).length<=400000 by unfold Gt;rw[List.length_append];have:=Q.out.1;have:=Q.out.2;omega)
 clear O2 G2 R4 SL9
 refine(As7 (N+3) v2 (Gt a b nm) w9 O9.out (by have:=LN.out;unfold Small;omega)).mono ?_
 rintro _ w5 ⟨rfl,hb5,l',hl',r5⟩
 have e5:=Rg.marks hl' HO.out
 subst e5
 have L5:=Avp (show(Pf (Gt a b nm)).length<=400000 by unfold Pf;rw[List.length_mergeSort];exact LN.out)
 have HB5:=Avp (HB9.out.trans hb5)
 have R5:=Avp r5
 clear hb5 hl' r5 O9 HB9
 go_wp2_with fail
 refine(Aj9 (N+3) v2 _ w5 R5.out (by have:=L5.out;unfold Small;omega)).mono ?_
 rintro _ w6 ⟨v6,rfl,hb6,r6,_,_⟩
 obtain⟨A6,c6,rfl,s6⟩:=Ag.sl r6
 have X6:=Avp (X.out.low (HB5.out.trans hb6) (Nat.lt_succ_self _))
 have IT:=Avp (show Lu (fun b=>N+3<=b) w6 ⟨nm,(Il a b nm).2,A6,_,c6⟩ from⟨s6,Ag.inD r6,TM.out,HNM.out⟩)
 have HB6:=Avp (HB.out.trans ((HB5.out.trans hb6).mono (show w.heap.size<=N+3 by rw[<-EN.out];omega)))
 clear hb6 r6 s6 R5 HB5 X HB
 go_wp2_with ((with_reducible refine Ai (N+2) ?_ ?_);(next=>rfl))
 unfold Az
 refine Af (J:=N+2) rfl rfl rfl rfl rfl X6.out (show(Tryz.prog.info? 246).map (·.size)=some 2 by kernel_rfl) rfl (by simp[Value.oneCell']) ?_
 intro w9 hx9 hu9
 have X9:=Avp hx9;have U9:=Avp hu9
 clear hx9 hu9
 go_wp2
 refine bodyPost_ret (v:=itV ⟨nm,(Il a b nm).2,A6,(Cw (Pf (Gt a b nm))).length,c6⟩) ?_ rfl ?_
 ·exact D5 Tryz.results271 rfl X9.out Tryz.underlying246 rfl (show(Tryz.prog.info? 246).map (·.size)=some 2 by kernel_rfl)
 exact⟨_,rfl,Ae HB6.out (U9.out.below (by rw[<-EN.out];omega)),_,rfl,rfl,(IT.out.upd U9.out (by omega)).mono (Below.refl _ _) (fun b hb=>by rw[<-EN.out];omega)⟩
structure Pk (w:World) (B:Nat) (r:Option Nat) (s:ItE):Prop where
 sl:Sl encM w s.A s.n s.c s.ms
 lt:∀ a,s.A=some a->a.block<w.heap.size
 off:∀ a,s.A=some a->some a.block≠r
 lo:∀ a,s.A=some a->B<=a.block
 tm:Aro s
def Hs (w:World) (B:Nat) (u:Value) (l:List As):Prop:=∃ es:List ItE,es.map ItE.s=l∧Ag encIt 246 w B u es∧∀ s∈es,Pk w B u.ownBlock s
section
variable {w w':World} {B:Nat} {u:Value} {l:List As} {r:Option Nat} {s:ItE}
theorem Pk.mono (h:Pk w B r s) (hb:Below w.heap.size w w'):Pk w' B r s:=⟨h.sl.mono hb,fun a e=>Nat.lt_of_lt_of_le (h.lt a e) hb.size,h.off,h.lo,h.tm⟩
theorem Pk.wrote {N:Nat} (h:Pk w B r s) (hw:An N none w w') (hN:N<B):Pk w' B r s:=⟨h.sl.wrote hw (fun a e=>by have:=h.lo a e;omega),fun a e=>Nat.lt_of_lt_of_le (h.lt a e) hw.size,h.off,h.lo,h.tm⟩
theorem Hs.nil_ (w:World) (B:Nat):Hs w B (.slice none 0 0) []:=⟨[],rfl,Ag.nil_ _ _ _ _,fun _ h=>nomatch h⟩
theorem Hs.mono (h:Hs w B u l) (hb:Below w.heap.size w w'):Hs w' B u l:=let ⟨es,e,ho,hs⟩:=h;⟨es,e,ho.mono hb,fun s hm=>(hs s hm).mono hb⟩
theorem Hs.own (h:Hs w B u l):∀ q,u.ownBlock=some q->B<=q∧q<w.heap.size:=let ⟨_,_,ho,_⟩:=h;Ag.own ho
theorem Hs.wrote {N:Nat} (h:Hs w B u l) (hw:An N none w w') (hN:N<B):Hs w' B u l:=let ⟨es,e,ho,hs⟩:=h;⟨es,e,ho.wrote hw hN,fun s hm=>(hs s hm).wrote hw hN⟩
theorem Hs.upd {J:Nat} (h:Hs w B u l) (hu:Upd J w w') (hJ:J<B):Hs w' B u l:=h.wrote hu.wrote hJ
theorem Hs.its (h:Hs w B u l):∃ A c,u = .slice A l.length c∧Fi (fun b=>B<=b) w A l.length c l:=by
 obtain⟨es,rfl,ho,hs⟩:=h
 obtain⟨A,c,rfl,hd⟩:=Ag.sl ho
 rw[List.length_map]
 exact⟨A,c,rfl,es,rfl,hd,Ag.inD ho,fun s hm=>⟨(hs s hm).sl,fun a e=>(hs s hm).lo a e,(hs s hm).tm⟩⟩
end
theorem Ib {ops:Array Oper} {rest:List Oper} {o:Oper} {a:Act} {Q:Exit->Act->World->Prop} {s x:Operand} {t:TypeId} {w:World} {B b:Nat} {u:Value} {l:List As} {e:ItE}
  (hgd:o.guard=none) (ho:o.op = .call { callee:=.builtin .append,args:=#[s,x],argTypes:=#[t,t] }) (ht:Tryz.prog.underlying t=some (.slice 246)) (hsv:a.eval s=u) (hxv:a.eval x = .slice (some ⟨b,0,none⟩) 1 1)
  (h:Hs w B u l) (hk:Sl encIt w (some ⟨b,0,none⟩) 1 1 [e]) (he:Pk w B u.ownBlock e) (hs:l.length+1<=1000000) (hB:B<=w.heap.size)
  (K:∀ u' w',Hs w' B u' (l++[e.s])->w.grownBy w' u.ownBlock->wpList Tryz.prog ops Q rest (a.put o.dst u') w'):wpList Tryz.prog ops Q (o::rest) a w:=by
 obtain⟨es,rfl,hown,hoff⟩:=h
 rw[List.length_map] at hs
 refine Aj Ao9 hgd ho ht hsv hxv hown hk (by simp;omega) hB ?_
 intro u' w' h2 hg hat
 refine K u' w' ⟨es++[e],by simp,h2,fun s hm=>?_⟩ hg
 have key:∀ s:ItE,Pk w B u.ownBlock s->Pk w' B u'.ownBlock s:=by
  rintro s ⟨k1,k2,k3,k4,k5⟩
  refine⟨k1.grownOff hg k3,fun a e=>Nat.lt_of_lt_of_le (k2 a e) hg.size,fun a e=>?_,k4,k5⟩
  rcases hat with e2 | e2
  ·rw[e2];exact k3 a e
  ·rw[e2];intro e3
   have:=k2 a e
   have e3:a.block=w.heap.size:=by simpa using e3
   omega
 rcases List.mem_append.1 hm with hm | hm
 ·exact key s (hoff s hm)
 ·rw[List.mem_singleton.1 hm];exact key _ he
theorem Bx.setPart {w:World} {J:Nat} {pre old post:List Value} (h:Bx w J (pre++old++post)) (new:List Value) (hl:old.length=new.length):Bx (w.setCells J pre.length new) J (pre++new++post)∧Upd J w (w.setCells J pre.length new):=by
 have u:=G7 J new pre.length w
 refine⟨⟨fun j v hj=>?_,?_,by rw[u.size];exact h.lt⟩,u⟩
 ·have hth:∀ j,j<new.length->(w.cell? ⟨J,pre.length+j,none⟩).isSome=true:=fun j hj=>by
   have:=(h.th (pre.length+j) (by simp;omega)).1
   rwa [Nat.zero_add] at this
  rw[Nat.zero_add]
  by_cases h1:j<pre.length
  ·rw[World.cell?_setCells_out J new pre.length w ⟨J,j,none⟩ (fun _ _=>.inl h1)]
   have:=h.rng j v (by rw[List.append_assoc,List.getElem?_append_left h1];rwa [List.append_assoc,List.getElem?_append_left h1] at hj)
   rwa [Nat.zero_add] at this
  ·by_cases h2:j<pre.length+new.length
   ·obtain⟨i,rfl⟩:∃ i,j=pre.length+i:=⟨j - pre.length,by omega⟩
    have hi:i<new.length:=by omega
    rw[World.cell?_setCells_in J new pre.length w hth i hi]
    rw[List.append_assoc,List.getElem?_append_right (by omega),Nat.add_sub_cancel_left,List.getElem?_append_left hi] at hj
    rw[<-hj,List.getElem?_eq_getElem hi]
   ·rw[World.cell?_setCells_out J new pre.length w ⟨J,j,none⟩ (fun _ _=>.inr (by simp only;omega))]
    have:=h.rng j v (by
     rw[List.getElem?_append_right (by simp;omega)] at hj ⊢
     rw[<-hj];congr 1;simp;omega)
    rwa [Nat.zero_add] at this
 ·have:(pre++new++post).length=(pre++old++post).length:=by simp[hl]
  rw[this]
  exact World.there_setCells h.th _ _ _
theorem Rn {c:Ar} (h:Bo c=true):Dy c.ctx=true:=by
 unfold Bo Ic at h
 simp only[Bool.and_eq_true] at h
 exact h.1.1
theorem Aan {l:List Dot} (h:Ea l=true):l.Pairwise (fun a b=>Bp a b=true):=(Nr l).1 h
theorem Ak5 {ms:List Av} (h:Ea (Dk ms)=true):Ta ms:=by
 have hp:=Aan h
 unfold Dk at hp
 rw[List.pairwise_map,List.pairwise_iff_getElem] at hp
 intro x hx y hy hd
 obtain⟨i,hi,rfl⟩:=List.getElem_of_mem hx
 obtain⟨j,hj,rfl⟩:=List.getElem_of_mem hy
 have irr:∀ d:Dot,¬Bp d d=true:=fun d=>by rw[Dj];omega
 rcases Nat.lt_trichotomy i j with h1 | h1 | h1
 ·have:=hp i j hi hj h1;rw[hd] at this;exact absurd this (irr _)
 ·subst h1;rfl
 ·have:=hp j i hj hi h1;rw[hd] at this;exact absurd this (irr _)
theorem Wn {l:List As} (h:Hw l=true) {x:As} (hx:x∈l):Ms x=false:=by
 unfold Hw at h
 rw[Bool.and_eq_true] at h
 obtain⟨i,hi,rfl⟩:=List.getElem_of_mem hx
 have:=Uz.1 h.1 i hi
 rw[Kq (List.getElem?_eq_getElem hi),Bool.and_eq_true,Bool.not_eq_true'] at this
 exact this.1
theorem Ah7 {x:As} (h:Ms x=false):Ea (Dk x.2)=true:=by
 unfold Ms at h
 simp only[Bool.or_eq_false_iff,Bool.not_eq_false'] at h
 exact h.2.2.1
theorem Aar {c:Ar} (h:Bo c=true):Hw c.items=true:=by
 unfold Bo at h
 simp only[Bool.and_eq_true] at h
 exact h.2.1
theorem Re {c:Ar} (h:Bo c=true) (nm:List UInt8):Ta (Ct c nm):=by
 unfold Ct
 cases hf:Jp c.items nm with
 | none=>intro x hx;cases hx
 | some x=>exact Ak5 (Ah7 (Wn (Aar h) (List.mem_of_find?_eq_some hf)))
def Mx (r:List UInt8):Option (Av×Nat):=
 match Pq r with
 | none=>none
 | some (d,u)=>match Fy 2147483647 (r.drop u) with
  | none=>none
  | some (q,v)=>match Fy 18446744073709551615 (r.drop (u+v)) with
   | none=>none
   | some (t,x)=>some (⟨d,(q:Int),t⟩,u+v+x)
def C8:Nat->List UInt8->Option (List Av×Nat)
 | 0,_=>some ([],0)
 | n+1,r=>match Mx r with
  | none=>none
  | some (d,u)=>Hy d u (C8 n (r.drop u))
def Lk (r:List UInt8):Option (As×Nat):=
 if (Dm 64 r).1≠0 then none else
 match Fy 18446744073709551615 (r.drop (Dm 64 r).2.2) with
 | none=>none
 | some (n,u)=>match C8 n (r.drop ((Dm 64 r).2.2+u)) with
  | none=>none
  | some (ms,v)=>some (((Dm 64 r).2.1,ms),(Dm 64 r).2.2+u+v)
def Du:Nat->List UInt8->Option (List As×Nat)
 | 0,_=>some ([],0)
 | n+1,r=>match Lk r with
  | none=>none
  | some (d,u)=>Hy d u (Du n (r.drop u))
def Hj (r:List UInt8):Option (Ar×Nat):=
 match Ub r with
 | none=>none
 | some (c,u)=>match Fy 18446744073709551615 (r.drop u) with
  | none=>none
  | some (n,v)=>match Du n (r.drop (u+v)) with
   | none=>none
   | some (its,x)=>if Bo ⟨c,its⟩ then some (⟨c,its⟩,u+v+x) else none
theorem I6 {α:Type} {d:α} {u:Nat} {o:Option (List α×Nat)} {l:List α} {n:Nat} (h:Hy d u o=some (l,n)):∃ t v,o=some (t,v)∧l=d::t∧n=u+v:=by
 cases o with
 | none=>cases h
 | some q=>
  obtain⟨t,v⟩:=q
  unfold Hy at h
  simp only[Option.some.injEq,Prod.mk.injEq] at h
  exact⟨t,v,rfl,h.1.symm,h.2.symm⟩
theorem Aab {α:Type} {acc:List α} {c:Nat} {o:Option (List α×Nat)} {l:List α} {n:Nat} (h:Dn acc c o=some (l,n)):∃ t v,o=some (t,v)∧l=acc++t∧n=c+v:=by
 cases o with
 | none=>cases h
 | some q=>
  obtain⟨t,v⟩:=q
  unfold Dn at h
  simp only[Option.some.injEq,Prod.mk.injEq] at h
  exact⟨t,v,rfl,h.1.symm,h.2.symm⟩
theorem Pb:∀ (n:Nat) {r:List UInt8} {l:List Dot} {u:Nat},Kb n r=some (l,u)->l.length<=u∧u<=r.length
 | 0,r,l,u,h=>by
  unfold Kb at h
  simp only[Option.some.injEq,Prod.mk.injEq] at h
  obtain⟨rfl,rfl⟩:=h
  simp
 | n+1,r,l,u,h=>by
  unfold Kb at h
  split at h
  ·cases h
  ·rename_i d v h1
   obtain⟨t,x,h2,rfl,rfl⟩:=I6 h
   have e1:=Kr h1
   have e2:=Pb n h2
   rw[List.length_drop] at e2
   simp only[List.length_cons]
   omega
theorem Qa {r:List UInt8} {l:List Dot} {u:Nat} (h:Nm r=some (l,u)):l.length+1<=u∧u<=r.length:=by
 unfold Nm at h
 split at h
 ·cases h
 ·rename_i n v h1
  obtain⟨t,x,h2,rfl,rfl⟩:=Aab h
  have e1:=Cl h1
  have e2:=Pb n h2
  rw[List.length_drop] at e2
  have e3:=e2.1
  have e4:=e2.2
  omega
theorem Qj {r:List UInt8} {c:Ctx} {u:Nat} (h:Ub r=some (c,u)):c.1.length+c.2.length+2<=u∧u<=r.length:=by
 unfold Ub at h
 split at h
 ·cases h
 ·rename_i v u1 h1
  split at h
  ·cases h
  ·rename_i c2 x h2
   split at h
   ·simp only[Option.some.injEq,Prod.mk.injEq] at h
    obtain⟨rfl,rfl⟩:=h
    have e1:=Qa h1
    have e2:=Qa h2
    rw[List.length_drop] at e2
    dsimp only
    omega
   ·cases h
theorem Aas {r:List UInt8} {m:Av} {u:Nat} (h:Mx r=some (m,u)):1<=u∧u<=r.length∧Jk m:=by
 unfold Mx at h
 split at h
 ·cases h
 ·rename_i d u1 h1
  split at h
  ·cases h
  ·rename_i q v h2
   split at h
   ·cases h
   ·rename_i t x h3
    simp only[Option.some.injEq,Prod.mk.injEq] at h
    obtain⟨rfl,rfl⟩:=h
    have e1:=Kr h1
    have e2:=Cl h2
    have e3:=Cl h3
    rw[List.length_drop] at e2 e3
    exact⟨by omega,by omega,e3.2.2.2⟩
theorem Na:∀ (n:Nat) {r:List UInt8} {l:List Av} {u:Nat},C8 n r=some (l,u)->l.length<=u∧u<=r.length∧∀ m∈l,Jk m
 | 0,r,l,u,h=>by
  unfold C8 at h
  simp only[Option.some.injEq,Prod.mk.injEq] at h
  obtain⟨rfl,rfl⟩:=h
  simp
 | n+1,r,l,u,h=>by
  unfold C8 at h
  split at h
  ·cases h
  ·rename_i d v h1
   obtain⟨t,x,h2,rfl,rfl⟩:=I6 h
   have e1:=Aas h1
   have e2:=Na n h2
   rw[List.length_drop] at e2
   simp only[List.length_cons]
   refine⟨by omega,by omega,fun m hm=>?_⟩
   rcases List.mem_cons.1 hm with rfl | hm
   ·exact e1.2.2
   ·exact e2.2.2 m hm
theorem Wa {most:Nat} {r:List UInt8} (h:(Dm most r).1=0):(Dm most r).2.1.length<=most∧1<=(Dm most r).2.2∧(Dm most r).2.2<=r.length:=by
 unfold Dm at h ⊢
 obtain⟨e,v,u,hq⟩:∃ e v u,Dx 18446744073709551615 r=(e,v,u):=⟨_,_,_,rfl⟩
 have hu:=Ns 18446744073709551615 r
 have hp:=Zh (most:=18446744073709551615) (r:=r)
 simp only[hq] at h hu hp ⊢
 split
 ·rename_i h1;rw[if_pos h1] at h;exact absurd h h1
 ·rename_i h1
  rw[if_neg h1] at h
  have h1':e=0:=by omega
  have hp:=hp h1'
  split
  ·rename_i h2;rw[if_pos h2] at h;simp at h
  ·rename_i h2
   rw[if_neg h2] at h
   split
   ·rename_i h3;rw[if_pos h3] at h;simp at h
   ·rename_i h3
    simp only[List.length_take,List.length_drop]
    omega
theorem Ql {r:List UInt8} {x:As} {u:Nat} (h:Lk r=some (x,u)):x.2.length+2<=u∧u<=r.length∧x.1.length<=64∧∀ m∈x.2,Jk m:=by
 unfold Lk at h
 split at h
 ·cases h
 ·rename_i h0
  have h0:(Dm 64 r).1=0:=by omega
  have es:=Wa h0
  split at h
  ·cases h
  ·rename_i n v h1
   split at h
   ·cases h
   ·rename_i ms x1 h2
    simp only[Option.some.injEq,Prod.mk.injEq] at h
    obtain⟨rfl,rfl⟩:=h
    have e1:=Cl h1
    have e2:=Na n h2
    rw[List.length_drop] at e1 e2
    exact⟨by simp only;omega,by omega,es.1,e2.2.2⟩
theorem Afo (x:As) (t:List As):(Cn (x::t)).length=x.2.length+(Cn t).length:=by simp[Cn,Dk]
theorem Oa (t:List As) (x:As):(Cn (t++[x])).length=(Cn t).length+x.2.length:=by simp[Cn,Dk]
theorem Ng:∀ (n:Nat) {r:List UInt8} {l:List As} {u:Nat},Du n r=some (l,u)->l.length+(Cn l).length<=u∧u<=r.length
 | 0,r,l,u,h=>by
  unfold Du at h
  simp only[Option.some.injEq,Prod.mk.injEq] at h
  obtain⟨rfl,rfl⟩:=h
  simp[Cn]
 | n+1,r,l,u,h=>by
  unfold Du at h
  split at h
  ·cases h
  ·rename_i d v h1
   obtain⟨t,x,h2,rfl,rfl⟩:=I6 h
   have e1:=Ql h1
   have e2:=Ng n h2
   rw[List.length_drop] at e2
   rw[Afo,List.length_cons]
   omega
theorem Xp {r:List UInt8} {c:Ar} {u:Nat} (h:Hj r=some (c,u)):Ch c<=u∧1<=u∧u<=r.length∧Bo c=true:=by
 unfold Hj at h
 split at h
 ·cases h
 ·rename_i ct u1 h1
  split at h
  ·cases h
  ·rename_i n v h2
   split at h
   ·cases h
   ·rename_i its x h3
    split at h
    ·rename_i hv
     simp only[Option.some.injEq,Prod.mk.injEq] at h
     obtain⟨rfl,rfl⟩:=h
     have e1:=Qj h1
     have e2:=Cl h2
     have e3:=Ng n h3
     rw[List.length_drop] at e2 e3
     exact⟨by unfold Ch;simp only;omega,by omega,by omega,hv⟩
    ·cases h
def Dg (a b:Ar):List (List UInt8):=Cw (Fa (Df a.items++Df b.items))
def Db (a b:Ar) (l:List (List UInt8)):List As:=(l.map (Il a b)).filter fun x=>decide (0<x.2.length)
def Bj:Ar:=⟨([],[]),[]⟩
def Im (a b:Ar):Ar×Int:=if Bo a&&Bo b then (⟨Em a.ctx b.ctx,Db a b (Dg a b)⟩,0) else (Bj,2)
theorem Ah6 {a b:Ar} (h:(Bo a&&Bo b)=false):Im a b=(Bj,2):=by unfold Im;rw[h];rfl
theorem Abx {a b:Ar} {l:List (List UInt8)} {k:Nat} {nm:List UInt8} (h:l[k]?=some nm) (h2:0<(Il a b nm).2.length):Db a b (l.take (k+1))=Db a b (l.take k)++[Il a b nm]:=by
 unfold Db;rw[Cc h];simp[h2]
theorem Aga {a b:Ar} {l:List (List UInt8)} {k:Nat} {nm:List UInt8} (h:l[k]?=some nm) (h2:¬0<(Il a b nm).2.length):Db a b (l.take (k+1))=Db a b (l.take k):=by
 unfold Db;rw[Cc h]
 have e:(Il a b nm).2.length=0:=by omega
 simp[e]
theorem Acd (a b:Ar) (l:List (List UInt8)) (k:Nat):(Db a b (l.take k)).length<=k:=by
 have h1:=List.length_filter_le (fun x:As=>decide (0<x.2.length)) ((l.take k).map (Il a b))
 rw[List.length_map,List.length_take] at h1
 unfold Db;omega
structure JAt (wU:World) (G:Nat) (x0 x1:Value) (l:List As) (wr:World):Prop where
 ex:∃ u,Bx wr G [x0,x1,u]∧Hs wr wU.heap.size u l
 wrote:An G none wU wr
theorem JAt.mono {wU:World} {G:Nat} {x0 x1:Value} {l:List As} {wr w':World} (h:JAt wU G x0 x1 l wr) (hb:Below wr.heap.size wr w'):JAt wU G x0 x1 l w':=
 let ⟨⟨u,h1,h2⟩,h3⟩:=h;⟨⟨u,h1.mono hb,h2.mono hb⟩,h3.le (hb.mono h3.size)⟩
theorem JAt.app {wU:World} {G:Nat} {x0 x1 u u':Value} {l':List As} {w2 w9:World} (hb:Bx w2 G [x0,x1,u]) (hw:An G none wU w2) (hG:G<wU.heap.size) (ho:∀ q,u.ownBlock=some q->wU.heap.size<=q) (h9:Hs w9 wU.heap.size u' l') (hg:w2.grownBy w9 u.ownBlock):JAt wU G x0 x1 l' (w9.setCell ⟨G,2,none⟩ u'):=by
 have hbl:Below wU.heap.size w2 w9:=(Below.refl _ w2).grown hg hw.size ho
 have b9:=hb.low hbl hG
 obtain⟨b1,b2⟩:=Bx.setPart (pre:=[x0,x1]) (old:=[u]) (post:=[]) b9 [u'] rfl
 refine⟨⟨u',b1,h9.upd b2 hG⟩,?_⟩
 refine⟨b2.os.trans (hbl.os.trans hw.os),b2.tape.trans (hbl.tape.trans hw.tape),b2.output.trans (hbl.output.trans hw.output),?_,fun k hk hk2 hk3=>?_⟩
 ·exact Nat.le_trans hw.size (Nat.le_trans hbl.size (Nat.le_of_eq b2.size.symm))
 ·exact(b2.block k hk2).trans ((hbl.block k hk).trans (hw.block k hk hk2 hk3))
def Au9 (wU:World) (G:Nat) (x0 x1:Value) (a b:Ar) (ns:List (List UInt8)) (i:Value) (wr:World):Prop:=∃ k:Nat,i = .int .i64 k∧k<=ns.length∧JAt wU G x0 x1 (Db a b (ns.take k)) wr
theorem Uk:Enters Tryz.prog 193:=enters_of Tryz.func193 (by kernel_rfl) rfl
theorem Aig {D D2:Nat->Prop} {w:World} {p p2:CPl} {a b:Ar} (h:Bg D w p a) (h2:Bg D2 w p2 b) (hn:Bk w) (hs:Bd a) (hs2:Bd b) (hv:(Bo a&&Bo b)=false) :
  Calls Tryz.prog 196 #[Cd p,Cd p2] w (Ret w (Dw (Ed w.heap.size Bj) 2)):=by
 obtain⟨N,hN⟩:∃ N,N=w.heap.size:=⟨_,rfl⟩
 have EN:=Avp hN
 obtain⟨w3,hw3⟩:∃ w3,w3=((w.alloc (.cells (Aw p) 141)).alloc (.cells (Aw p2) 141)).alloc (.cells cartZ 141):=⟨_,rfl⟩
 have hb:Below w.heap.size w w3:=by rw[hw3];go_grown
 have k1:KAt w3 N p:=by rw[hw3,hN];exact((KAt.new w p).mono (by go_grown))
 have k2:KAt w3 (N+1) p2:=by rw[hw3,hN];have:=KAt.new (w.alloc (.cells (Aw p) 141)) p2;rw[World.size_alloc] at this;exact this.mono (by go_grown)
 have x3:Bx w3 (N+2) cartZ.toList:=by
  rw[hw3,hN];have:=Bx.new ((w.alloc (.cells (Aw p) 141)).alloc (.cells (Aw p2) 141)) cartZ 141
  rw[World.size_alloc,World.size_alloc] at this;exact this
 have sz:w3.heap.size=N+3:=by rw[hw3,hN];simp
 have HB:=Avp hb;have K1:=Avp k1;have K2:=Avp k2;have X:=Avp x3;have SZ:=Avp sz
 have H:=Avp (h.mono hb fun _ x=>x);have H2:=Avp (h2.mono hb fun _ x=>x);have NM:=Avp (hn.mono hb)
 have NB:=Avp (show N+3<=w3.heap.size by rw[sz];exact Nat.le_refl _)
 have HS:=Avp hs;have HS2:=Avp hs2
 have HW3:=Avp hw3
 clear hb k1 k2 x3 sz h h2 hs hs2 hn hw3
 have V1:=Avp (Eo H.out NM.out HS.out)
 cases h1:Bo a with
 | false=>
  rw[h1] at V1
  have k0:=K1.out.c0;have k1:=K1.out.c1;have k2:=K1.out.c2
  clear hv h1
  go_enter Tryz.func196,Tryz.ntmps196
  go_wp2_with fail
  rw[<-hN,<-HW3.out]
  clear hN HW3
  go_wp2_with fail
  refine V1.out.mono ?_
  rintro _ w4 ⟨_,rfl,hb4,rfl⟩
  replace K1:=Avp (K1.out.mono hb4);replace K2:=Avp (K2.out.mono hb4);replace X:=Avp (X.out.mono hb4);replace HB:=Avp (HB.out.le hb4)
  replace NB:=Avp (Nat.le_trans NB.out (hb4).size);replace NM:=Avp (NM.out.mono hb4)
  replace H:=Avp (H.out.mono hb4 fun _ x=>x);replace H2:=Avp (H2.out.mono hb4 fun _ x=>x)
  clear hb4 k0 k1 k2
  go_wp2_with ((with_reducible refine Ai (N+2) ?_ ?_);(next=>rfl))
  unfold Az
  refine Af (J:=N+2) rfl rfl rfl rfl rfl X.out (show(Tryz.prog.info? 141).map (·.size)=some 3 by kernel_rfl) rfl (by simp[Value.oneCell']) ?_
  intro w9 hx9 hu9
  have X9:=Avp hx9;have U9:=Avp hu9
  clear hx9 hu9
  go_wp2
  refine bodyPost_ret (v:=.tuple #[.agg cartZ,.int .i64 2]) ?_ rfl ?_
  ·exact Ah Tryz.results196 rfl rfl X9.out Tryz.underlying141 rfl (show(Tryz.prog.info? 141).map (·.size)=some 3 by kernel_rfl)
  exact⟨_,rfl,Ae HB.out (U9.out.below (by rw[<-EN.out];omega)),_,rfl,⟨none,0,0,none,0,0,none,0,0⟩,rfl,Bc.nil_,Bc.nil_,⟨[],rfl,Sl.nil_ _ _,InD.nil_ _,by simp⟩,InD.nil_ _,InD.nil_ _⟩
 | true=>
  rw[h1,Bool.true_and] at hv
  rw[h1] at V1
  have HV:=Avp hv
  clear hv h1
  have k0:=K1.out.c0;have k1:=K1.out.c1;have k2:=K1.out.c2
  go_enter Tryz.func196,Tryz.ntmps196
  go_wp2_with fail
  rw[<-hN,<-HW3.out]
  clear hN HW3
  go_wp2_with fail
  refine V1.out.mono ?_
  rintro _ w4 ⟨_,rfl,hb4,rfl⟩
  replace K1:=Avp (K1.out.mono hb4);replace K2:=Avp (K2.out.mono hb4);replace X:=Avp (X.out.mono hb4);replace HB:=Avp (HB.out.le hb4)
  replace NB:=Avp (Nat.le_trans NB.out (hb4).size);replace NM:=Avp (NM.out.mono hb4)
  replace H:=Avp (H.out.mono hb4 fun _ x=>x);replace H2:=Avp (H2.out.mono hb4 fun _ x=>x)
  clear k0 k1 k2 hb4
  have V2:=Avp (Eo H2.out NM.out HS2.out)
  rw[HV.out] at V2
  have k0:=K2.out.c0;have k1:=K2.out.c1;have k2:=K2.out.c2
  go_wp2_with fail
  refine V2.out.mono ?_
  rintro _ w5 ⟨_,rfl,hb5,rfl⟩
  replace K1:=Avp (K1.out.mono hb5);replace K2:=Avp (K2.out.mono hb5);replace X:=Avp (X.out.mono hb5);replace HB:=Avp (HB.out.le hb5)
  replace NB:=Avp (Nat.le_trans NB.out (hb5).size);replace NM:=Avp (NM.out.mono hb5)
  replace H:=Avp (H.out.mono hb5 fun _ x=>x);replace H2:=Avp (H2.out.mono hb5 fun _ x=>x)
  clear k0 k1 k2 hb5
  go_wp2_with ((with_reducible refine Ai (N+2) ?_ ?_);(next=>rfl))
  unfold Az
  refine Af (J:=N+2) rfl rfl rfl rfl rfl X.out (show(Tryz.prog.info? 141).map (·.size)=some 3 by kernel_rfl) rfl (by simp[Value.oneCell']) ?_
  intro w9 hx9 hu9
  have X9:=Avp hx9;have U9:=Avp hu9
  clear hx9 hu9
  go_wp2
  refine bodyPost_ret (v:=.tuple #[.agg cartZ,.int .i64 2]) ?_ rfl ?_
  ·exact Ah Tryz.results196 rfl rfl X9.out Tryz.underlying141 rfl (show(Tryz.prog.info? 141).map (·.size)=some 3 by kernel_rfl)
  exact⟨_,rfl,Ae HB.out (U9.out.below (by rw[<-EN.out];omega)),_,rfl,⟨none,0,0,none,0,0,none,0,0⟩,rfl,Bc.nil_,Bc.nil_,⟨[],rfl,Sl.nil_ _ _,InD.nil_ _,by simp⟩,InD.nil_ _,InD.nil_ _⟩
theorem Ag.updNe {α:Type} {e:Enc α} {ty:TypeId} {w w':World} {B J:Nat} {u:Value} {l:List α} (h:Ag e ty w B u l) (hu:Upd J w w') (hn:u.ownBlock≠some J):Ag e ty w' B u l:=by
 rcases h.2 with h' | ⟨g,cap,cur,hv,hb,hg,r⟩
 ·exact⟨h.1,.inl h'⟩
 ·refine⟨h.1,.inr ⟨g,cap,cur,hv,hb,?_,r⟩⟩
  rw[hu.block g (fun e=>hn (by rw[hv,<-e];rfl))];exact hg
theorem Bc.wroteD {D:Nat->Prop} {w w':World} {M:Nat} {r:Option Nat} {A:Option Addr} {n c:Nat} {l:List Dot} (h:Bc w A n c l) (hi:InD D A) (hw:An M r w w') (hD:∀ b,D b->b<w.heap.size->b≠M∧some b≠r):Bc w' A n c l:=
 ⟨h.len,h.cap,h.max,h.nil,fun i d hid=>by
  obtain⟨b,o,rfl,hlt,h1,h2⟩:=h.cell i d hid
  obtain⟨n1,n2⟩:=hD b (hi ⟨b,o,none⟩ rfl) hlt
  have hb:=hw.block b hlt n1 n2
  exact⟨b,o,rfl,Nat.lt_of_lt_of_le hlt hw.size,(World.cell?_of_block (a:=⟨b,_,none⟩) hb).trans h1,(World.cell?_of_block (a:=⟨b,_,none⟩) hb).trans h2⟩⟩
theorem V9 {P:Prop} (h:Az P):P:=h
theorem KAt.low {w w':World} {N B:Nat} {p:CPl} (h:KAt w N p) (hb:Below B w w') (hN:N<B):KAt w' N p:=
 ⟨(World.cell?_of_block (a:=⟨N,0,none⟩) (hb.block N hN)).trans h.c0,(World.cell?_of_block (a:=⟨N,1,none⟩) (hb.block N hN)).trans h.c1,(World.cell?_of_block (a:=⟨N,2,none⟩) (hb.block N hN)).trans h.c2⟩
theorem Aen {D D2:Nat->Prop} {w:World} {p p2:CPl} {a b:Ar} (h:Bg D w p a) (h2:Bg D2 w p2 b):∀ nm∈Dg a b,nm.length<=1000000:=by
 intro nm hm
 have h3:=(List.mergeSort_perm _ _).mem_iff.1 (Tf _ nm hm)
 rcases List.mem_append.1 h3 with h4 | h4
 ·obtain⟨x,hx,rfl⟩:=List.mem_map.1 h4;exact h.its.nb x hx
 ·obtain⟨x,hx,rfl⟩:=List.mem_map.1 h4;exact h2.its.nb x hx
theorem Rt {c:Ar} (h:Bd c):(Df c.items).length<=200000:=by
 unfold Bd Ch at h;unfold Df;rw[List.length_map];omega
theorem Qu {P:Program} {ops:Array Oper} {rest:List Oper} {op:Oper} {a:Act} {w:World} {Q:Exit->Act->World->Prop} {ty:TypeId} {x y:Operand} {J:Nat} {old post:List Value} {cells:Array Value} (hgd:op.guard=none) (ho:op.op = .store ty x y) (hd:op.dst=none) (hx:a.eval x = .pointer (some ⟨J,0,none⟩)) (hy:a.eval y = .agg cells)
  (hb:Bx w J (old++post)) (hi:(P.info? ty).map (·.size)=some cells.size) (hl:old.length=cells.size) (h1:cells.all (·.oneCell')=true)
  (h:∀ w',Bx w' J (cells.toList++post)->Upd J w w'->wpList P ops Q rest a w'):wpList P ops Q (op::rest) a w:=by
 have hth:w.there J 0 cells.size:=fun j hj=>hb.th j (by simp;omega)
 have e:=run_storeAt_mid (P:=P) w J 0 ty cells hth hi h1
 obtain⟨b1,b2⟩:=Bx.setPart (pre:=[]) (old:=old) (post:=post) hb cells.toList (by simpa using hl)
 exact Mj hgd ho hd hx hy e (h _ b1 b2)
theorem Ae5 {D D2:Nat->Prop} {w:World} {p p2:CPl} {a b:Ar} (h:Bg D w p a) (h2:Bg D2 w p2 b) (hn:Bk w) (hs:Bd a) (hs2:Bd b) (ha:Bo a=true) (hv:Bo b=true) :
  Calls Tryz.prog 196 #[Cd p,Cd p2] w (Ret w (Dw (Ed w.heap.size ⟨Em a.ctx b.ctx,Db a b (Dg a b)⟩) 0)):=by
 obtain⟨N,hN⟩:∃ N,N=w.heap.size:=⟨_,rfl⟩
 have EN:=Avp hN
 obtain⟨w3,hw3⟩:∃ w3,w3=((w.alloc (.cells (Aw p) 141)).alloc (.cells (Aw p2) 141)).alloc (.cells cartZ 141):=⟨_,rfl⟩
 have hb:Below w.heap.size w w3:=by rw[hw3];go_grown
 have k1:KAt w3 N p:=by rw[hw3,hN];exact((KAt.new w p).mono (by go_grown))
 have k2:KAt w3 (N+1) p2:=by rw[hw3,hN];have:=KAt.new (w.alloc (.cells (Aw p) 141)) p2;rw[World.size_alloc] at this;exact this.mono (by go_grown)
 have x3:Bx w3 (N+2) cartZ.toList:=by
  rw[hw3,hN];have:=Bx.new ((w.alloc (.cells (Aw p) 141)).alloc (.cells (Aw p2) 141)) cartZ 141
  rw[World.size_alloc,World.size_alloc] at this;exact this
 have sz:w3.heap.size=N+3:=by rw[hw3,hN];simp
 have HB:=Avp hb;have K1:=Avp k1;have K2:=Avp k2;have X:=Avp x3;have SZ:=Avp sz
 have H:=Avp (h.mono hb fun _ x=>x);have H2:=Avp (h2.mono hb fun _ x=>x);have NM:=Avp (hn.mono hb)
 have NB:=Avp (show N+3<=w3.heap.size by rw[sz];exact Nat.le_refl _)
 have HS:=Avp hs;have HS2:=Avp hs2
 have H0:=Avp h;have H20:=Avp h2;have NM0:=Avp hn
 have HW3:=Avp hw3
 clear hb k1 k2 x3 sz h h2 hs hs2 hn hw3
 have V1:=Avp (Eo H.out NM.out HS.out)
 rw[ha] at V1
 have HA:=Avp ha;have HV:=Avp hv
 have NA:=Avp (show Ii a=Df a.items by unfold Ii;rw[if_pos ha])
 have NBB:=Avp (show Ii b=Df b.items by unfold Ii;rw[if_pos hv])
 clear ha hv
 have k0:=K1.out.c0;have k1:=K1.out.c1;have k2:=K1.out.c2
 go_enter Tryz.func196,Tryz.ntmps196
 go_wp2_with fail
 rw[<-hN,<-HW3.out]
 clear hN HW3
 go_wp2_with fail
 refine V1.out.mono ?_
 rintro _ w4 ⟨_,rfl,hb4,rfl⟩
 replace K1:=Avp (K1.out.mono hb4);replace K2:=Avp (K2.out.mono hb4);replace X:=Avp (X.out.mono hb4);replace HB:=Avp (HB.out.le hb4)
 replace NB:=Avp (Nat.le_trans NB.out (hb4).size);replace NM:=Avp (NM.out.mono hb4)
 replace H:=Avp (H.out.mono hb4 fun _ x=>x);replace H2:=Avp (H2.out.mono hb4 fun _ x=>x)
 clear k0 k1 k2 hb4 V1 SZ
 have V2:=Avp (Eo H2.out NM.out HS2.out)
 rw[HV.out] at V2
 have k0:=K2.out.c0;have k1:=K2.out.c1;have k2:=K2.out.c2
 go_wp2_with fail
 refine V2.out.mono ?_
 rintro _ w5 ⟨_,rfl,hb5,rfl⟩
 replace K1:=Avp (K1.out.mono hb5);replace K2:=Avp (K2.out.mono hb5);replace X:=Avp (X.out.mono hb5);replace HB:=Avp (HB.out.le hb5)
 replace NB:=Avp (Nat.le_trans NB.out (hb5).size);replace NM:=Avp (NM.out.mono hb5)
 replace H:=Avp (H.out.mono hb5 fun _ x=>x);replace H2:=Avp (H2.out.mono hb5 fun _ x=>x)
 clear k0 k1 k2 hb5 V2
 go_wp2_with fail
 have NB1:=Avp (fun w1 (hb1:Below w5.heap.size w5 w1)=>show N+3<=w1.heap.size from Nat.le_trans NB.out hb1.size)
 refine Bu 4 mixed (by kernel_rfl) (by kernel_rfl) ?_
 refine Al.step (Ob.loadV Aa.free Has.oldIs (fun w1 hb1=>K1.out.load hb1)) ?_
 refine Al.step (Ob.call1V Aa.free Uk (Has.new 0 0) (fun w1 hb1=>Pu (B:=N+3) (NB1.out w1 hb1) (NA.out ▸ We (H.out.mono hb1 fun _ x=>x) (NM.out.mono hb1) HS.out))) ?_
 refine Al.step (Ob.loadV Aa.free Has.oldIs (fun w1 hb1=>K2.out.load hb1)) ?_
 refine Al.step (Ob.call1V Aa.free Uk (Has.new 2 0) (fun w1 hb1=>Pu (B:=N+3) (NB1.out w1 hb1) (NBB.out ▸ We (H2.out.mono hb1 fun _ x=>x) (NM.out.mono hb1) HS2.out))) ?_
 simp only[Al,Ao,List.map,Bq,List.reverse_cons,List.reverse_nil,List.nil_append,List.cons_append,List.take_succ_cons,List.take_zero,List.drop_succ_cons,List.drop_zero]
 intro wE hE
 iterate 1 (rintro _ rfl)
 rintro _ r1
 iterate 1 (rintro _ rfl)
 rintro _ r3
 simp only[Act.put,List.setIfInBounds_toArray,List.set_cons_zero,List.set_cons_succ]
 obtain⟨A9,c9,rfl,s9⟩:=Ag.sl r3
 have SL9:=Avp s9;have R4:=Avp r1
 have Q:=Avp (And.intro (Rt HS.out) (Rt HS2.out))
 replace K1:=Avp (K1.out.mono hE);replace K2:=Avp (K2.out.mono hE);replace X:=Avp (X.out.mono hE);replace HB:=Avp (HB.out.le hE)
 replace NB:=Avp (Nat.le_trans NB.out (hE).size);replace NM:=Avp (NM.out.mono hE)
 replace H:=Avp (H.out.mono hE fun _ x=>x);replace H2:=Avp (H2.out.mono hE fun _ x=>x)
 clear r1 r3 s9 hE NB1 NA NBB
 go_wp2_with (first
  | (at_builtin;refine Aj (B:=N+3) (l:=Df a.items) (k:=Df b.items) Sw rfl rfl Tryz.underlying67 rfl rfl R4.out SL9.out (by have:=Q.out.1;have:=Q.out.2;omega) NB.out ?_;intro v2 w9 o2 g2 _;have O2:=Avp o2;have G2:=Avp g2;clear o2 g2)
  | fail)
 have HB9:=Avp ((Below.refl (N+3) wE).grown G2.out NB.out (fun q hq=>(R4.out.own q hq).1))
 refine(Ap5 (N+3) v2 _ w9 O2.out (by have:=Q.out.1;have:=Q.out.2;unfold Small;rw[List.length_append];omega)).mono ?_
 rintro _ w10 ⟨rfl,hb10,r10⟩
 have hbt:=HB9.out.trans hb10
 have R10:=Avp r10
 have L10:=Avp (show(Fa (Df a.items++Df b.items)).length<=400000 by rw[It,List.length_append];have:=Q.out.1;have:=Q.out.2;omega)
 replace K1:=Avp (K1.out.low hbt (by omega));replace K2:=Avp (K2.out.low hbt (by omega));replace X:=Avp (X.out.low hbt (by omega))
 replace HB:=Avp (HB.out.trans (hbt.mono (by rw[<-EN.out];omega)))
 replace NB:=Avp (Nat.le_trans NB.out hbt.size)
 clear hbt hb10 r10 HB9 O2 G2 R4 SL9 H H2 NM
 have hG:Below w10.heap.size w10 (w10.alloc (.cells cartZ 141)):=by go_grown
 have BG:=Avp (Bx.new w10 cartZ 141)
 have RG:=Avp (R10.out.mono hG)
 have HG:=Avp hG
 have U:=Avp (Ap3 p.A p.B p2.A p2.B p.n p.ca p.m p.cb p2.n p2.ca p2.m p2.cb a.ctx b.ctx _ ((H0.out.con.mono HB.out).mono hG) ((H20.out.con.mono HB.out).mono hG) (by
  have h1:=H0.out.vec.len;have h2:=H0.out.cloud.len;have h3:=H20.out.vec.len;have h4:=H20.out.cloud.len
  have h5:=HS.out;have h6:=HS2.out
  unfold Bd Ch at h5 h6;unfold Small;omega) (Rn HA.out) (Rn HV.out))
 have k0:=K1.out.c0;have k1:=K1.out.c1;have k2:=K2.out.c0;have k3:=K2.out.c1
 have nb:=NB.out
 have n0:N<w10.heap.size:=by omega
 have n1:N+1<w10.heap.size:=by omega
 clear hG nb
 go_wp2_with fail
 clear k0 k1 k2 k3 n0 n1
 generalize hGe:w10.heap.size=G at *
 refine U.out.mono ?_
 rintro _ w12 ⟨_,rfl,hb12,_,rfl,A1,n1,ca1,B1,m1,cb1,rfl,ra,rb,_⟩
 have B12:=Avp (BG.out.mono hb12)
 go_wp2_with ((with_reducible refine Ai G ?_ ?_);(next=>rfl))
 unfold Az
 refine Qu (J:=G) (old:=[.slice none 0 0,.slice none 0 0]) (post:=[.slice none 0 0]) rfl rfl rfl rfl rfl B12.out (show(Tryz.prog.info? 138).map (·.size)=some 2 by kernel_rfl) rfl (by simp[Value.oneCell']) ?_
 intro w13 hx13 hu13
 have szG:(w10.alloc (.cells cartZ 141)).heap.size=G+1:=by rw[World.size_alloc,hGe]
 rw[szG] at ra rb
 obtain⟨_,_,e1,da,ia⟩:=Hg ra
 cases e1
 obtain⟨_,_,e2,db,ib⟩:=Hg rb
 cases e2
 have hGn:¬(G+1<=G):=by omega
 have da3:=da.updD ia hu13 hGn
 have db3:=db.updD ib hu13 hGn
 have hq:∀ q,v2.ownBlock=some q->q<G:=fun q e=>by have:=(R10.out.own q e).2;omega
 have rg:=(RG.out.mono hb12).updNe hu13 (fun e=>by have:=hq _ e;omega)
 have hb3:Below G w10 w13:=(HG.out.trans (hb12.mono (by rw[szG];omega))).trans (hu13.below (Nat.le_refl G))
 have K13:=Avp (K1.out.low hb3 (by have:=NB.out;omega))
 have K23:=Avp (K2.out.low hb3 (by have:=NB.out;omega))
 have X13:=Avp (X.out.low hb3 (by have:=NB.out;omega))
 have HB13:=Avp (HB.out.le (by rw[hGe];exact hb3))
 have C13:=Avp (Ait (N+3) v2 _ w13 rg (by have:=L10.out;unfold Small;omega))
 have X3:=Avp hx13;have DA:=Avp (And.intro da3 ia);have DB:=Avp (And.intro db3 ib);have HQ:=Avp hq
 have SZ3:=Avp (show G<w13.heap.size by rw[hu13.size];exact B12.out.lt)
 clear hx13 hu13 ra rb da ia db ib da3 db3 rg hq hb3 hb12 hGn szG U RG HG BG B12 R10 K1 K2 X HB
 go_wp2_with fail
 refine C13.out.mono ?_
 rintro _ w14 ⟨v6,rfl,hb14,r14,hw14,ho14⟩
 obtain⟨A6,c6,rfl,s6⟩:=Ag.sl r14
 have hN6:∀ x,A6=some x->x.block≠G:=fun x e=>by
  have:=HQ.out x.block (by rw[<-ho14,e];rfl)
  omega
 have hD:∀ x,G+1<=x->x<w13.heap.size->x≠w13.heap.size∧some x≠v2.ownBlock:=fun x h1 h2=>⟨by omega,fun e=>by have:=HQ.out x e.symm;omega⟩
 have DA4:=Avp (And.intro (DA.out.1.wroteD DA.out.2 hw14 hD) DA.out.2)
 have DB4:=Avp (And.intro (DB.out.1.wroteD DB.out.2 hw14 hD) DB.out.2)
 have X4:=Avp (X3.out.wrote hw14 (by have:=SZ3.out;omega) (fun e=>by have:=HQ.out G e.symm;omega))
 have K14:=Avp (K13.out.low hb14 (by omega));have K24:=Avp (K23.out.low hb14 (by omega));have XR:=Avp (X13.out.low hb14 (by omega))
 have HB4:=Avp (HB13.out.trans (hb14.mono (show w.heap.size<=N+3 by rw[<-EN.out];omega)))
 have SZ4:=Avp (Nat.lt_of_lt_of_le SZ3.out hw14.size)
 have NS:=Avp (show Sl encS w14 A6 (Dg a b).length c6 (Dg a b) from s6);have N6:=Avp hN6
 have hnl:(Cw (Fa (Df a.items++Df b.items))).length<=400000:=Nat.le_trans (No _) L10.out
 change (Dg a b).length<=400000 at hnl
 have NL:=Avp hnl
 have PB:=Avp (show(Cw (Fa (Df a.items++Df b.items))).length=(Dg a b).length from rfl)
 clear s6 hN6 hD r14 hw14 ho14 hb14 hnl C13 DA DB X3 K13 K23 X13 HB13 SZ3 L10
 rw[PB.out]
 obtain⟨n,hn⟩:∃ n,n=(Dg a b).length:=⟨_,rfl⟩
 rw[<-hn] at NS NL ⊢
 have HNN:=Avp hn
 have hbig:=NS.out.big
 clear hn PB
 go_wp2
 go_loopw [39] (fun i wr=>Au9 w14 G (.slice A1 (Em a.ctx b.ctx).1.length ca1) (.slice B1 (Em a.ctx b.ctx).2.length cb1) a b (Dg a b) i wr) (fun i _=>n - (intOf i).toNat)
 case atStart=>exact⟨0,rfl,Nat.zero_le _,⟨⟨_,X4.out,Hs.nil_ _ _⟩,An.refl_ _ _ _⟩⟩
 case round=>
  obtain⟨k,rfl,hk,hj⟩:=hrel
  rw[<-HNN.out] at hk
  have J:=Avp hj
  have h3:Below (N+3) w14 wr:=hj.wrote.below (by have:=NB.out;have:=SZ4.out;omega) NB.out (fun q e=>nomatch e)
  have hbw:Below w.heap.size w wr:=HB4.out.trans (h3.mono (by rw[<-EN.out];omega))
  have HBW:=Avp hbw;have XR1:=Avp (XR.out.low h3 (by omega));have LK:=Avp hk
  by_cases hlt:k<n
  ·obtain⟨b0,o0,nm,hA0,_,hnm,_,cs⟩:=(NS.out.wrote hj.wrote N6.out).at_ (i:=k) hlt
   have c0:wr.cell? ⟨b0,o0+k,none⟩=some (Ac nm):=by have:=cs 0 _ rfl;simpa [encS] using this
   have hix:=(show(Instr.indexAt 67 (.slice A6 n c6) (.int .i64 (k:Int))).run Tryz.prog wr = .ok (.pointer (some ⟨b0,o0+k,none⟩)) wr by rw[hA0];simp[go_sem,hlt])
   have IT:=Avp (Ash (nm:=nm) (H0.out.mono hbw fun _ x=>x) (H20.out.mono hbw fun _ x=>x) HS.out HS2.out (Aeh (Re HA.out nm) (Re HV.out nm)) (Aen H0.out H20.out nm (List.mem_of_getElem? hnm)))
   have K1:=K14.out.low h3 (by omega);have K2:=K24.out.low h3 (by omega)
   have k0:=K1.c0;have k1:=K1.c1;have k2:=K1.c2;have q0:=K2.c0;have q1:=K2.c1;have q2:=K2.c2
   have LT:=Avp hlt;have HNM:=Avp hnm
   clear hA0 cs K1 K2 h3 hbw hj hnm hk
   go_wp2_with fail
   refine IT.out.mono ?_
   rintro _ w1 ⟨_,rfl,hb1,e,rfl,he,hi⟩
   have HB1:=Avp hb1
   have ha2:Below w1.heap.size w1 (w1.alloc (.cells (itC e) 246)):=by go_grown
   have HA2:=Avp ha2
   have I2:=Avp (hi.mono ha2 fun _ x=>x)
   obtain⟨⟨u,bx,ir⟩,wr9⟩:=J.out
   have OU:=Avp (fun q hq=>(ir.own q hq).2)
   have OZ:=Avp (fun q hq=>(ir.own q hq).1)
   have BX:=Avp ((bx.mono hb1).mono ha2);have IR:=Avp ((ir.mono hb1).mono ha2)
   have W2:=Avp ((wr9.le (hb1.mono wr9.size)).le (ha2.mono (Nat.le_trans wr9.size hb1.size)))
   have SW:=Avp wr9.size
   have HE:=Avp he
   clear k0 k1 k2 q0 q1 q2 c0 hix IT ha2 hi bx ir wr9 hb1 he
   have hen:e.n=e.ms.length:=I2.out.sl.len
   have hbe:=I2.out.sl.big
   by_cases hp:0<e.n
   ·have HK:=Avp (show 0<(Il a b nm).2.length by rw[<-HE.out];show 0<e.ms.length;omega)
    obtain⟨be,oe,_,hAe,hbe2,_⟩:=I2.out.sl.at_ hp
    have OF:=Avp (show Pk (w1.alloc (.cells (itC e) 246)) w14.heap.size u.ownBlock e from⟨I2.out.sl,fun x ex=>by rw[hAe] at ex;cases ex;exact hbe2,fun x ex eo=>by
     have h1:=I2.out.ind x ex
     have h2:=OU.out x.block eo.symm
     omega,fun x ex=>Nat.le_trans SW.out (I2.out.ind x ex),I2.out.tm⟩)
    have D1:=Sl.new encIt (w1.alloc (.cells (itC e) 246)) [e] (by simp) (itC e) rfl 246
    rw[World.size_alloc] at D1
    have D2:=Avp D1
    have cg:=BX.out.cell 2 rfl
    have hg9:Below (w1.alloc (.cells (itC e) 246)).heap.size (w1.alloc (.cells (itC e) 246)) ((w1.alloc (.cells (itC e) 246)).alloc (.cells (itC e) 246)):=by go_grown
    have IR3:=Avp (IR.out.mono hg9);have BX3:=Avp (BX.out.mono hg9);have OF3:=Avp (OF.out.mono hg9)
    have W3:=Avp (W2.out.le (hg9.mono W2.out.size))
    have LN:=Avp (show(Db a b ((Dg a b).take k)).length+1<=1000000 by have h1:=Acd a b (Dg a b) k;have h2:=LT.out;have h3:=NL.out;omega)
    have hgl:G<w1.heap.size:=by have:=HB1.out.size;have:=SW.out;have:=SZ4.out;omega
    have HGL:=Avp hgl
    clear hen hAe hbe2 D1 hg9 OF
    go_wp2_with (at_builtin;refine V9 ?_)
    unfold Az
    refine Ib (B:=w14.heap.size) (l:=Db a b ((Dg a b).take k)) (e:=e) rfl rfl Tryz.underlying139 rfl rfl IR3.out D2.out OF3.out LN.out W3.out.size ?_
    intro u2 w9 i9 g9
    obtain⟨C2,cc2,hu2,_⟩:=i9.its
    generalize (Db a b ((Dg a b).take k)++[e.s]).length=ln at hu2
    subst hu2
    have I9:=Avp i9;have G9:=Avp g9
    have b9:=BX3.out.low ((Below.refl w14.heap.size _).grown g9 W3.out.size OZ.out) SZ4.out
    have c9:=b9.cell 2 rfl;have f9:=b9.fr 2 (by simp)
    clear i9 g9 b9 cg
    go_wp2
    go_roundw
    case rel=>exact⟨k+1,by simp,by rw[<-HNN.out];exact LT.out,by rw[Abx HNM.out HK.out,<-HE.out];exact JAt.app BX3.out W3.out SZ4.out OZ.out I9.out G9.out⟩
    case measure=>simp[intOf];have:=LT.out;omega
   ·have HK:=Avp (show ¬0<(Il a b nm).2.length by rw[<-HE.out];show ¬0<e.ms.length;omega)
    have JM:=Avp ((J.out.mono HB1.out).mono HA2.out)
    clear hen
    go_wp2
    go_roundw
    case rel=>exact⟨k+1,by simp,by rw[<-HNN.out];exact LT.out,by rw[Aga HNM.out HK.out];exact JM.out⟩
    case measure=>simp[intOf];have:=LT.out;omega
  ·obtain rfl:k=n:=by have:=LK.out;omega
   have hall:(Dg a b).take k=Dg a b:=List.take_of_length_le (by rw[<-HNN.out];exact Nat.le_refl _)
   obtain⟨⟨u,bx,ir⟩,wr9⟩:=J.out
   rw[hall] at ir
   obtain⟨C,cc,rfl,hits⟩:=ir.its
   have hD:∀ x,G+1<=x->x<w14.heap.size->x≠G∧some x≠none:=fun x h1 h2=>⟨by omega,fun e=>nomatch e⟩
   have DA5:=Avp (And.intro (DA4.out.1.wroteD DA4.out.2 wr9 hD) DA4.out.2)
   have DB5:=Avp (And.intro (DB4.out.1.wroteD DB4.out.2 wr9 hD) DB4.out.2)
   have HI:=Avp hits
   have g0:=bx.cell 0 rfl;have g1:=bx.cell 1 rfl;have g2:=bx.cell 2 rfl
   clear hall bx ir wr9 hits hD h3 hbw hj hk
   go_wp2_with ((with_reducible refine Ai (N+2) ?_ ?_);(next=>rfl))
   unfold Az
   refine Af (J:=N+2) rfl rfl rfl rfl rfl XR1.out (show(Tryz.prog.info? 141).map (·.size)=some 3 by kernel_rfl) rfl (by simp[Value.oneCell']) ?_
   intro w9 hx9 hu9
   have X9:=Avp hx9;have U9:=Avp hu9
   clear hx9 hu9
   clear g0 g1 g2
   go_wp2
   refine bodyPost_ret (v:=.tuple #[Cd ⟨A1,(Em a.ctx b.ctx).1.length,ca1,B1,(Em a.ctx b.ctx).2.length,cb1,C,(Db a b (Dg a b)).length,cc⟩,.int .i64 0]) ?_ rfl ?_
   ·exact Ah Tryz.results196 rfl rfl X9.out Tryz.underlying141 rfl (show(Tryz.prog.info? 141).map (·.size)=some 3 by kernel_rfl)
   have nbo:=NB.out
   have eno:=EN.out
   have szo:=SZ4.out
   exact⟨_,rfl,Ae HBW.out (U9.out.below (by omega)),_,rfl,⟨A1,(Em a.ctx b.ctx).1.length,ca1,B1,(Em a.ctx b.ctx).2.length,cb1,C,(Db a b (Dg a b)).length,cc⟩,rfl,
    DA5.out.1.updD DA5.out.2 U9.out (by omega),DB5.out.1.updD DB5.out.2 U9.out (by omega),(HI.out.upd U9.out (by omega)).mono (Below.refl _ _) (fun x hx=>by omega),DA5.out.2.mono (fun x hx=>by omega),DB5.out.2.mono (fun x hx=>by omega)⟩
abbrev EnS:=List UInt8×Ar
structure EnE where
 k:List UInt8
 c:Ar
 p:CPl
def EnE.s (e:EnE):EnS:=(e.k,e.c)
def encE:Enc EnE:=⟨4,fun e=>[Ac e.k,.slice e.p.A e.p.n e.p.ca,.slice e.p.B e.p.m e.p.cb,.slice e.p.C e.p.k e.p.cc],fun _=>rfl,fun s u hu=>by
 simp only[List.mem_cons,List.not_mem_nil,or_false] at hu
 rcases hu with rfl | rfl | rfl | rfl <;> rfl⟩
abbrev enV (e:EnE):Value:=.agg #[Ac e.k,.slice e.p.A e.p.n e.p.ca,.slice e.p.B e.p.m e.p.cb,.slice e.p.C e.p.k e.p.cc]
abbrev enC (e:EnE):Array Value:=#[Ac e.k,.slice e.p.A e.p.n e.p.ca,.slice e.p.B e.p.m e.p.cb,.slice e.p.C e.p.k e.p.cc]
theorem Asw:Inf Tryz.prog 143 encE 88:=by
 obtain⟨i,h1,h2,h3,h4⟩:=info_parts (P:=Tryz.prog) (show(Tryz.prog.info? 143).map (fun i=>(i.zero,i.size,i.bytes))=some (some (.agg #[.string .empty,.slice none 0 0,.slice none 0 0,.slice none 0 0]),4,88) by kernel_rfl)
 exact⟨⟨i,_,h1,h2,h3,h4,rfl⟩,by decide,by decide⟩
structure Au7 (e:EnE):Prop where
 key:e.k.length<=1000000
 small:Bd e.c
structure Ck (D:Nat->Prop) (w:World) (p:CPl) (c:Ar):Prop where
 vec:Bc w p.A p.n p.ca c.ctx.1
 cloud:Bc w p.B p.m p.cb c.ctx.2
 its:∃ es:List ItE,es.map ItE.s=c.items∧Sl encIt w p.C p.k p.cc es∧(es≠[]->InD D p.C)∧∀ e∈es,Sl encM w e.A e.n e.c e.ms∧(e.ms≠[]->InD D e.A)∧Aro e
 iA:c.ctx.1≠[]->InD D p.A
 iB:c.ctx.2≠[]->InD D p.B
theorem Bc.lt_ {w:World} {A:Option Addr} {n c:Nat} {l:List Dot} (h:Bc w A n c l) (hl:l≠[]):∀ a,A=some a->a.block<w.heap.size:=fun a ea=>by
 obtain⟨d,t,rfl⟩:=List.exists_cons_of_ne_nil hl
 obtain⟨b,o,e2,hb,_⟩:=h.cell 0 d rfl
 rw[ea] at e2;cases e2;exact hb
theorem Sl.lt_ {α:Type} {e:Enc α} {w:World} {A:Option Addr} {n c:Nat} {l:List α} (h:Sl e w A n c l) (hl:l≠[]):∀ a,A=some a->a.block<w.heap.size:=fun a ea=>by
 obtain⟨d,t,rfl⟩:=List.exists_cons_of_ne_nil hl
 obtain⟨b,o,e2,hb,_⟩:=h.cell 0 d rfl
 rw[ea] at e2;cases e2;exact hb
theorem Bg.if_ {D:Nat->Prop} {w:World} {p:CPl} {c:Ar} (h:Bg D w p c):Ck (fun b=>D b∧b<w.heap.size) w p c:=by
 obtain⟨es,e1,e2,e3,e4⟩:=h.its
 exact⟨h.vec,h.cloud,⟨es,e1,e2,fun hn a ea=>⟨e3 a ea,e2.lt_ hn a ea⟩,fun x hx=>⟨(e4 x hx).sl,fun hn a ea=>⟨(e4 x hx).ind a ea,(e4 x hx).sl.lt_ hn a ea⟩,(e4 x hx).tm⟩⟩,fun hn a ea=>⟨h.iA a ea,h.vec.lt_ hn a ea⟩,fun hn a ea=>⟨h.iB a ea,h.cloud.lt_ hn a ea⟩⟩
section
variable {D D':Nat->Prop} {w w':World} {p:CPl} {c:Ar}
theorem Ck.at_ (h:Ck D w p c):Bg (fun _=>True) w p c:=by
 obtain⟨es,e1,e2,e3,e4⟩:=h.its
 exact⟨h.vec,h.cloud,⟨es,e1,e2,fun _ _=>trivial,fun x hx=>⟨(e4 x hx).1,fun _ _=>trivial,(e4 x hx).2.2⟩⟩,fun _ _=>trivial,fun _ _=>trivial⟩
theorem Ck.dom (h:Ck D w p c) (hd:∀ b,D b->D' b):Ck D' w p c:=by
 obtain⟨es,e1,e2,e3,e4⟩:=h.its
 exact⟨h.vec,h.cloud,⟨es,e1,e2,fun hn=>(e3 hn).mono hd,fun x hx=>⟨(e4 x hx).1,fun hn=>((e4 x hx).2.1 hn).mono hd,(e4 x hx).2.2⟩⟩,fun hn=>(h.iA hn).mono hd,fun hn=>(h.iB hn).mono hd⟩
theorem Ck.below (h:Ck D w p c) (hb:Below w.heap.size w w'):Ck D w' p c:=by
 obtain⟨es,e1,e2,e3,e4⟩:=h.its
 exact⟨h.vec.mono hb,h.cloud.mono hb,⟨es,e1,e2.mono hb,e3,fun x hx=>⟨(e4 x hx).1.mono hb,(e4 x hx).2⟩⟩,h.iA,h.iB⟩
theorem Bc.offC {A:Option Addr} {n k:Nat} {l:List Dot} {r:Option Nat} (h:Bc w A n k l) (hg:w.grownBy w' r) (ho:l≠[]->∀ a,A=some a->some a.block≠r):Bc w' A n k l:=
 ⟨h.len,h.cap,h.max,h.nil,fun i d hi=>by
  obtain⟨b,o,e,hb,h1,h2⟩:=h.cell i d hi
  have hn:=ho (fun e=>by subst e;simp at hi) _ e
  exact⟨b,o,e,Nat.lt_of_lt_of_le hb hg.size,hg.cell h1 hn,hg.cell h2 hn⟩⟩
theorem Sl.offC {α:Type} {e:Enc α} {A:Option Addr} {n k:Nat} {l:List α} {r:Option Nat} (h:Sl e w A n k l) (hg:w.grownBy w' r) (ho:l≠[]->∀ a,A=some a->some a.block≠r):Sl e w' A n k l:=
 ⟨h.len,h.cap,h.max,h.nil,fun i x hi=>by
  obtain⟨b,o,e1,hb,h1⟩:=h.cell i x hi
  have hn:=ho (fun e=>by subst e;simp at hi) _ e1
  exact⟨b,o,e1,Nat.lt_of_lt_of_le hb hg.size,fun j u hj=>hg.cell (h1 j u hj) hn⟩⟩
theorem Ck.off {r:Option Nat} (h:Ck D w p c) (hg:w.grownBy w' r) (ho:∀ b,D b->some b≠r):Ck D w' p c:=by
 obtain⟨es,e1,e2,e3,e4⟩:=h.its
 exact⟨h.vec.offC hg fun hn a e=>ho _ (h.iA hn a e),h.cloud.offC hg fun hn a e=>ho _ (h.iB hn a e),⟨es,e1,e2.offC hg fun hn a e=>ho _ (e3 hn a e),e3,fun x hx=>⟨(e4 x hx).1.offC hg fun hn a e=>ho _ ((e4 x hx).2.1 hn a e),(e4 x hx).2⟩⟩,h.iA,h.iB⟩
theorem Bc.wroteC {A:Option Addr} {n k N:Nat} {r:Option Nat} {l:List Dot} (h:Bc w A n k l) (hw:An N r w w') (ho:l≠[]->∀ a,A=some a->a.block≠N∧some a.block≠r):Bc w' A n k l:=
 ⟨h.len,h.cap,h.max,h.nil,fun i d hi=>by
  obtain⟨b,o,e,hb,h1,h2⟩:=h.cell i d hi
  have hn:=ho (fun e=>by subst e;simp at hi) _ e
  exact⟨b,o,e,Nat.lt_of_lt_of_le hb hw.size,hw.cell h1 hn.1 hn.2,hw.cell h2 hn.1 hn.2⟩⟩
theorem Sl.wroteC {α:Type} {e:Enc α} {A:Option Addr} {n k N:Nat} {r:Option Nat} {l:List α} (h:Sl e w A n k l) (hw:An N r w w') (ho:l≠[]->∀ a,A=some a->a.block≠N∧some a.block≠r):Sl e w' A n k l:=
 ⟨h.len,h.cap,h.max,h.nil,fun i x hi=>by
  obtain⟨b,o,e1,hb,h1⟩:=h.cell i x hi
  have hn:=ho (fun e=>by subst e;simp at hi) _ e1
  exact⟨b,o,e1,Nat.lt_of_lt_of_le hb hw.size,fun j u hj=>hw.cell (h1 j u hj) hn.1 hn.2⟩⟩
theorem Ck.wrote {N:Nat} {r:Option Nat} (h:Ck D w p c) (hw:An N r w w') (ho:∀ b,D b->b≠N∧some b≠r):Ck D w' p c:=by
 obtain⟨es,e1,e2,e3,e4⟩:=h.its
 exact⟨h.vec.wroteC hw fun hn a e=>ho _ (h.iA hn a e),h.cloud.wroteC hw fun hn a e=>ho _ (h.iB hn a e),⟨es,e1,e2.wroteC hw fun hn a e=>ho _ (e3 hn a e),e3,fun x hx=>⟨(e4 x hx).1.wroteC hw fun hn a e=>ho _ ((e4 x hx).2.1 hn a e),(e4 x hx).2⟩⟩,h.iA,h.iB⟩
end
def Ac9 (B:Nat) (c:Ar) (w:World) (v:Value):Prop:=∃ p:CPl,v=Cd p∧Ck (fun b=>B<=b∧b<w.heap.size) w p c
structure Jj (D:Nat->Prop) (w:World) (e:EnE):Prop where
 at_:Ck D w e.p e.c
 ok:Au7 e
theorem Jj.mono {D D':Nat->Prop} {w w':World} {e:EnE} (h:Jj D w e) (hb:Below w.heap.size w w') (hd:∀ b,D b->D' b):Jj D' w' e:=⟨(h.at_.below hb).dom hd,h.ok⟩
def Cb (D:Nat->Prop) (w:World) (A:Option Addr) (n c:Nat) (l:List EnS):Prop:=∃ es:List EnE,es.map EnE.s=l∧Sl encE w A n c es∧InD D A∧∀ e∈es,Jj D w e
theorem Cb.mono {D D':Nat->Prop} {w w':World} {A:Option Addr} {n c:Nat} {l:List EnS} (h:Cb D w A n c l) (hb:Below w.heap.size w w') (hd:∀ b,D b->D' b):Cb D' w' A n c l:=
 let ⟨es,e,h1,h2,h3⟩:=h;⟨es,e,h1.mono hb,h2.mono hd,fun x hx=>(h3 x hx).mono hb hd⟩
theorem Cb.nil_ (D:Nat->Prop) (w:World):Cb D w none 0 0 []:=⟨[],rfl,Sl.nil_ _ _,InD.nil_ _,fun _ h=>nomatch h⟩
theorem Sl.entry {w:World} {A:Option Addr} {n c:Nat} {l:List EnE} (h:Sl encE w A n c l) {k:Nat} (hk:k<n):∃ b o m,A=some ⟨b,o,none⟩∧b<w.heap.size∧l[k]?=some m∧l.drop k=m::l.drop (k+1)∧
  w.cell? ⟨b,o+k*4,none⟩=some (Ac m.k)∧w.cell? ⟨b,o+k*4+1,none⟩=some (.slice m.p.A m.p.n m.p.ca)∧w.cell? ⟨b,o+k*4+2,none⟩=some (.slice m.p.B m.p.m m.p.cb)∧w.cell? ⟨b,o+k*4+3,none⟩=some (.slice m.p.C m.p.k m.p.cc):=by
 obtain⟨b,o,m,h1,h2,h3,h4,h5⟩:=h.at_ hk
 exact⟨b,o,m,h1,h2,h3,h4,h5 0 _ rfl,h5 1 _ rfl,h5 2 _ rfl,h5 3 _ rfl⟩
def Abl (B:Nat) (w:World) (r:Option Nat) (b:Nat):Prop:=B<=b∧b<w.heap.size∧some b≠r
def Gu (w:World) (B:Nat) (u:Value) (l:List EnS):Prop:=∃ es:List EnE,es.map EnE.s=l∧Ag encE 143 w B u es∧∀ e∈es,Jj (Abl B w u.ownBlock) w e
section
variable {w w':World} {B:Nat} {u:Value} {l:List EnS} {r:Option Nat} {s:EnE}
theorem Gu.nil_ (w:World) (B:Nat):Gu w B (.slice none 0 0) []:=⟨[],rfl,Ag.nil_ _ _ _ _,fun _ h=>nomatch h⟩
theorem Gu.mono (h:Gu w B u l) (hb:Below w.heap.size w w'):Gu w' B u l:=let ⟨es,e,ho,hs⟩:=h;⟨es,e,ho.mono hb,fun s hm=>(hs s hm).mono hb fun _ h=>⟨h.1,Nat.lt_of_lt_of_le h.2.1 hb.size,h.2.2⟩⟩
theorem Gu.own (h:Gu w B u l):∀ q,u.ownBlock=some q->B<=q∧q<w.heap.size:=let ⟨_,_,ho,_⟩:=h;Ag.own ho
theorem Jj.wrote {D D':Nat->Prop} {N:Nat} (h:Jj D w s) (hw:An N none w w') (hN:∀ b,D b->b≠N) (hd:∀ b,D b->D' b):Jj D' w' s:=⟨(h.at_.wrote hw fun b hb=>⟨hN b hb,by simp⟩).dom hd,h.ok⟩
theorem Gu.wrote {N:Nat} (h:Gu w B u l) (hw:An N none w w') (hN:N<B):Gu w' B u l:=let ⟨es,e,ho,hs⟩:=h;⟨es,e,ho.wrote hw hN,fun s hm=>(hs s hm).wrote hw (fun b hb=>by have:=hb.1;omega) fun _ h=>⟨h.1,Nat.lt_of_lt_of_le h.2.1 hw.size,h.2.2⟩⟩
theorem Gu.len (h:Gu w B u l):∃ A c,u = .slice A l.length c:=by
 obtain⟨es,rfl,ho,_⟩:=h
 obtain⟨A,c,rfl,_⟩:=Ag.sl ho
 rw[List.length_map]
 exact⟨A,c,rfl⟩
theorem Gu.ents (h:Gu w B u l):∃ A c,u = .slice A l.length c∧Cb (fun b=>B<=b∧b<w.heap.size) w A l.length c l:=by
 obtain⟨es,rfl,ho,hs⟩:=h
 obtain⟨A,c,rfl,hd⟩:=Ag.sl ho
 rw[List.length_map]
 exact⟨A,c,rfl,es,rfl,hd,fun a e=>ho.own a.block (by rw[e];rfl),fun s hm=>(hs s hm).mono (Below.refl _ _) fun _ h=>⟨h.1,h.2.1⟩⟩
end
theorem Jy {ops:Array Oper} {rest:List Oper} {o:Oper} {a:Act} {Q:Exit->Act->World->Prop} {s x:Operand} {t:TypeId} {w:World} {B b:Nat} {u:Value} {l:List EnS} {e:EnE}
  (hgd:o.guard=none) (ho:o.op = .call { callee:=.builtin .append,args:=#[s,x],argTypes:=#[t,t] }) (ht:Tryz.prog.underlying t=some (.slice 143)) (hsv:a.eval s=u) (hxv:a.eval x = .slice (some ⟨b,0,none⟩) 1 1)
  (h:Gu w B u l) (hk:Sl encE w (some ⟨b,0,none⟩) 1 1 [e]) (he:Jj (Abl B w u.ownBlock) w e) (hs:l.length+1<=1000000) (hB:B<=w.heap.size)
  (K:∀ u' w',Gu w' B u' (l++[e.s])->w.grownBy w' u.ownBlock->(u'.ownBlock=u.ownBlock∨u'.ownBlock=some w.heap.size)->wpList Tryz.prog ops Q rest (a.put o.dst u') w'):wpList Tryz.prog ops Q (o::rest) a w:=by
 obtain⟨es,rfl,hown,hoff⟩:=h
 rw[List.length_map] at hs
 refine Aj Asw hgd ho ht hsv hxv hown hk (by simp;omega) hB ?_
 intro u' w' h2 hg hat
 refine K u' w' ⟨es++[e],by simp,h2,fun s hm=>?_⟩ hg hat
 have key:∀ s:EnE,Jj (Abl B w u.ownBlock) w s->Jj (Abl B w' u'.ownBlock) w' s:=by
  rintro s ⟨k1,k2⟩
  refine⟨(k1.off hg (fun b h=>h.2.2)).dom (fun b h=>⟨h.1,Nat.lt_of_lt_of_le h.2.1 hg.size,?_⟩),k2⟩
  rcases hat with e2 | e2
  ·rw[e2];exact h.2.2
  ·rw[e2];intro e3
   have:=h.2.1
   have e3:b=w.heap.size:=by simpa using e3
   omega
 rcases List.mem_append.1 hm with hm | hm
 ·exact key s (hoff s hm)
 ·rw[List.mem_singleton.1 hm];exact key _ he
theorem Sl.fromZ {α:Type} {e:Enc α} {w:World} {A:Option Addr} {n c:Nat} {l:List α} (h:Sl e w A n c l) {k:Nat} (hk:k<=n):Sl e w (Fk e.z A c k) (n - k) (c - k) (l.drop k):=by
 have hlen:=h.len;have hcap:=h.cap;have hmax:=h.max
 refine⟨by rw[List.length_drop];omega,by omega,by omega,fun e0=>?_,fun i x hi=>?_⟩
 ·unfold Fk at e0
  split at e0
  ·omega
  ·cases A with
   | none=>have:=h.nil rfl;omega
   | some a=>cases e0
 ·rw[List.getElem?_drop] at hi
  obtain⟨b,o,e1,hlt,h1⟩:=h.cell _ x hi
  have hki:=(List.getElem?_eq_some_iff.1 hi).1
  have hc:¬c=k:=by omega
  refine⟨b,o+k*e.z,by unfold Fk;rw[if_neg hc,e1];simp[Bz],hlt,fun j u hj=>?_⟩
  have:=h1 j u hj
  rw[Nat.add_mul] at this
  rw[show o+k*e.z+i*e.z+j=o+(k*e.z+i*e.z)+j by omega]
  exact this
theorem Al7 {D:Nat->Prop} {z:Nat} {A:Option Addr} {c k:Nat} (h:InD D A):InD D (Fk z A c k):=fun a e=>by
 unfold Fk at e
 split at e
 ·exact h a e
 ·cases A with
  | none=>cases e
  | some x=>
   obtain⟨b,o,sp⟩:=x
   have:=h _ rfl
   simp only[Option.map_some,Option.some.injEq] at e
   subst e
   unfold Addr.add
   split <;> exact this
theorem Cb.from_ {D:Nat->Prop} {w:World} {A:Option Addr} {n c:Nat} {l:List EnS} (h:Cb D w A n c l) {k:Nat} (hk:k<=n):Cb D w (Fk 4 A c k) (n - k) (c - k) (l.drop k):=by
 obtain⟨es,rfl,h1,h2,h3⟩:=h
 exact⟨es.drop k,by rw[List.map_drop],h1.fromZ hk,Al7 h2,fun e he=>h3 e (List.mem_of_mem_drop he)⟩
theorem Cb.len {D:Nat->Prop} {w:World} {A:Option Addr} {n c:Nat} {l:List EnS} (h:Cb D w A n c l):n=l.length:=by
 obtain⟨es,rfl,h1,_⟩:=h
 rw[List.length_map];exact h1.len
def Jb (B:Nat) (l:List EnS) (w:World) (v:Value):Prop:=∃ A n c,v = .slice A n c∧Cb (fun b=>B<=b∧b<w.heap.size) w A n c l
theorem Xv {w:World} {A:Option Addr} {n c k:Nat} (h:k<=n) (hc:n<=c):(Instr.sliceAt 118 (.slice A n c) (some (.int .i64 (k:Int))) none none).run Tryz.prog w = .ok (.slice (Fk 4 A c k) (n - k) (c - k)) w:=by
 have h1:(0:Int)<=(k:Int):=by omega
 have h2:(k:Int)<=(n:Int):=by omega
 have h3:(n:Int)<=(c:Int):=by omega
 unfold Fk
 simp[go_sem,h1,h2]
structure Lb (B R J X:Nat) (w0:World) (l:List UInt8) (j:Nat) (nm:List UInt8) (u:Value) (acc:List Av) (w:World):Prop where
 d:DSt B R J w0 l j [Ac [],.slice none 0 0] w
 x:Bx w X [Ac nm,u]
 o:Ag encM 249 w (X+1) u acc
 lt:J<X
theorem DSt.low {B R J C k:Nat} {w0 w w':World} {l:List UInt8} {cs:List Value} (h:DSt B R J w0 l k cs w) (hb:Below C w w') (hC:J<C):DSt B R J w0 l k cs w':=
 ⟨h.wr.le (Ak hb (by have:=h.hJ;omega)),h.rd.keep (Ak hb (by have:=h.hB;have:=h.hJ;omega)) h.base,h.bx.low hb hC,h.hB,h.hJ⟩
theorem DSt.upd {B R J Y k:Nat} {w0 w w':World} {l:List UInt8} {cs:List Value} (h:DSt B R J w0 l k cs w) (hu:Upd Y w w') (hY:J<Y):DSt B R J w0 l k cs w':=h.low (hu.below (B:=Y) (Nat.le_refl _)) hY
section
variable {B R J X Y j j':Nat} {w0 w w':World} {l nm:List UInt8} {u u':Value} {acc acc':List Av}
theorem Lb.r (h:Lb B R J X w0 l j nm u acc w):R<X:=by have:=h.d.rd.lt;have:=h.d.hB;have:=h.d.hJ;have:=h.lt;omega
theorem Lb.step (h:Lb B R J X w0 l j nm u acc w) (hw:An R none w w') (hr:De B R l j' w'):Lb B R J X w0 l j' nm u acc w':=
 ⟨h.d.step hw hr,h.x.wrote hw (by have:=h.r;omega) (by simp),h.o.wrote hw (by have:=h.r;omega),h.lt⟩
theorem Lb.mono (h:Lb B R J X w0 l j nm u acc w) (hb:Below w.heap.size w w'):Lb B R J X w0 l j nm u acc w':=⟨h.d.mono hb,h.x.mono hb,h.o.mono hb,h.lt⟩
theorem Lb.upd (h:Lb B R J X w0 l j nm u acc w) (hu:Upd Y w w') (hY:X<Y) (ho:u.ownBlock≠some Y):Lb B R J X w0 l j nm u acc w':=
 ⟨h.d.upd hu (by have:=h.lt;omega),hu.bx h.x (by omega),h.o.updNe hu ho,h.lt⟩
theorem Lb.put (h:Lb B R J X w0 l j nm u acc w) (hb:Below (X+1) w w') (ho:Ag encM 249 w' (X+1) u' acc'):Lb B R J X w0 l j nm u' acc' (w'.setCell ⟨X,1,none⟩ u'):=by
 have x1:Bx w' X [Ac nm,u]:=h.x.low hb (by omega)
 obtain⟨x2,u2⟩:=Bx.setPart (pre:=[Ac nm]) (old:=[u]) (post:=[]) x1 [u'] rfl
 have u3:Upd X w' (w'.setCell ⟨X,1,none⟩ u'):=u2
 exact⟨(h.d.low hb (by have:=h.lt;omega)).upd u3 h.lt,x2,ho.updNe u3 (fun e=>by have:=(ho.own X e).1;omega),h.lt⟩
end
theorem Bx.one {w:World} {Y j:Nat} {cs:List Value} {v:Value} (h:Bx w Y cs) (hj:j<cs.length):Bx (w.setCell ⟨Y,j,none⟩ v) Y (cs.set j v)∧Upd Y w (w.setCell ⟨Y,j,none⟩ v):=by
 have e1:cs=cs.take j++[cs[j]]++cs.drop (j+1):=by rw[List.append_assoc,List.singleton_append,<-List.drop_eq_getElem_cons hj,List.take_append_drop]
 have hl:(cs.take j).length=j:=by rw[List.length_take];omega
 have h':=h
 rw[e1] at h'
 obtain⟨x2,u2⟩:=Bx.setPart (pre:=cs.take j) (old:=[cs[j]]) (post:=cs.drop (j+1)) h' [v] rfl
 rw[hl] at x2 u2
 have e2:cs.set j v=cs.take j++[v]++cs.drop (j+1):=by rw[List.set_eq_take_append_cons_drop,if_pos hj,List.append_assoc,List.singleton_append]
 rw[e2]
 exact⟨x2,u2⟩
def Aih (b:Nat) (x:As) (w:World) (v:Value):Prop:=∃ A c,v = .agg #[Ac x.1,.slice A x.2.length c]∧Ag encM 249 w b (.slice A x.2.length c) x.2
theorem Ag.shape {α:Type} {e:Enc α} {ty:TypeId} {w:World} {B:Nat} {v:Value} {l:List α} (h:Ag e ty w B v l):∃ A c,v = .slice A l.length c:=let ⟨A,c,e,_⟩:=Ag.sl h;⟨A,c,e⟩
def Att (B R J X:Nat) (w0:World) (l:List UInt8) (nm:List UInt8) (k:Nat) (MT:Option (List Av×Nat)) (s:Value) (wr:World):Prop:=
 ∃ (m:Nat) (acc:List Av) (j:Nat) (u:Value),s = .int .u64 (m:Nat)∧m<18446744073709551616∧Lb B R J X w0 l j nm u acc wr∧k<=j∧acc.length<=j∧MT=Dn acc (j - k) (C8 m (l.drop j))
theorem Yk {m:Nat} {r:List UInt8} {acc:List Av} {c:Nat} {d:Dot} {u:Nat} (h1:Pq r=some (d,u)) {q v:Nat} (h2:Fy 2147483647 (r.drop u)=some (q,v)) {t x:Nat} (h3:Fy 18446744073709551615 (r.drop (u+v))=some (t,x)) :
  Dn acc c (C8 (m+1) r)=Dn (acc++[⟨d,(q:Int),t⟩]) (c+(u+v+x)) (C8 m (r.drop (u+v+x))):=by
 have e:Mx r=some (⟨d,(q:Int),t⟩,u+v+x):=by unfold Mx;rw[h1];simp only[h2,h3]
 rw[show C8 (m+1) r=Hy ⟨d,(q:Int),t⟩ (u+v+x) (C8 m (r.drop (u+v+x))) by show(match Mx r with | none=>none | some (d,u)=>Hy d u (C8 m (r.drop u)))=_;rw[e]]
 exact Kx _ _ _ _ _
theorem Abh {m:Nat} {r:List UInt8} (h1:Pq r=none):C8 (m+1) r=none:=by unfold C8 Mx;rw[h1]
theorem Aa1 {m:Nat} {r:List UInt8} {d:Dot} {u:Nat} (h1:Pq r=some (d,u)) (h2:Fy 2147483647 (r.drop u)=none):C8 (m+1) r=none:=by unfold C8 Mx;rw[h1];simp only[h2]
theorem Abw {m:Nat} {r:List UInt8} {d:Dot} {u:Nat} (h1:Pq r=some (d,u)) {q v:Nat} (h2:Fy 2147483647 (r.drop u)=some (q,v)) (h3:Fy 18446744073709551615 (r.drop (u+v))=none):C8 (m+1) r=none:=by unfold C8 Mx;rw[h1];simp only[h2,h3]
theorem Aqa {B R k:Nat} {l:List UInt8} {w:World} (h:De B R l k w) (hB:B<=w.heap.size) (hl:l.length<=1000000):Calls Tryz.prog 382 #[.pointer (some ⟨R,0,none⟩)] w (RdQ B R l k (Lk (l.drop k)) (fun x w' v=>Aih w.heap.size x w' v) w):=by
 have S0:=Avp (DSt.start h hB #[Ac [],.slice none 0 0] 246)
 have HL:=Avp hl
 obtain⟨J,hJ⟩:∃ J,J=w.heap.size:=⟨_,rfl⟩
 rw[<-hJ] at S0
 have EJ:=Avp hJ
 have C1:=Avp (Adb (most:=64) S0.out.rd S0.out.base hl (by omega))
 clear h hB hJ hl
 unfold RdQ
 obtain⟨T,hT⟩:∃ T,T=Lk (l.drop k):=⟨_,rfl⟩
 rw[<-hT]
 unfold Lk at hT
 have LN:=Avp (fun h=>Wa (most:=64) (r:=l.drop k) h)
 obtain⟨e,nm,s,hq⟩:∃ e nm s,Dm 64 (l.drop k)=(e,nm,s):=⟨_,_,_,rfl⟩
 rw[hq] at C1 hT LN
 clear hq
 simp only at C1 hT LN
 by_cases he:e=0
 ·subst he
  rw[if_neg (by simp)] at hT
  rw[Cp] at hT
  cases h1:Fy 18446744073709551615 (l.drop (k+s)) with
  | none=>
   rw[h1] at hT
   simp only at hT
   subst hT
   go_enter Tryz.func382,Tryz.ntmps382
   go_wp2_with fail
   refine C1.out.mono ?_
   rintro _ w1 ⟨rfl,hw1,hr1⟩
   have S1:=Avp (S0.out.step hw1 hr1)
   clear hw1 hr1 C1
   go_wp2_with fail
   refine(Aam w1).mono ?_
   rintro _ w2 ⟨rfl,rfl⟩
   have S2:=Avp (S1.out.mono (w':=w2.alloc (.cells #[Ac nm,.slice none 0 0] 246)) (by go_grown))
   have C2:=Avp (Lg (most:=18446744073709551615) S2.out.rd S2.out.base)
   unfold RdQ at C2
   rw[h1] at C2
   simp only at C2
   go_wp2_with fail
   refine C2.out.mono ?_
   rintro _ w3 ⟨hw3,rfl⟩
   exact⟨rfl,S2.out.wr.trans hw3 (.inl rfl),rfl⟩
  | some q=>
   obtain⟨n,v⟩:=q
   rw[h1] at hT
   simp only at hT
   rw[Cp,<-Nat.add_assoc] at hT
   have HN:=Avp (Cl h1)
   have HT:=Avp hT
   clear hT
   go_enter Tryz.func382,Tryz.ntmps382
   go_wp2_with fail
   rw[<-EJ.out]
   refine C1.out.mono ?_
   rintro _ w1 ⟨rfl,hw1,hr1⟩
   have S1:=Avp (S0.out.step hw1 hr1)
   clear hw1 hr1 C1
   go_wp2_with fail
   refine(Aam w1).mono ?_
   rintro _ w2 ⟨rfl,rfl⟩
   obtain⟨X,hX⟩:∃ X,X=w2.heap.size:=⟨_,rfl⟩
   have EX:=Avp hX
   have X0:=Avp (show Lb B R J X w l (k+s) nm (.slice none 0 0) [] (w2.alloc (.cells #[Ac nm,.slice none 0 0] 246)) from
    ⟨S1.out.mono (by go_grown),by rw[hX];exact Bx.new w2 #[Ac nm,.slice none 0 0] 246,Ag.nil_ _ _ _ _,by rw[hX];exact S1.out.bx.lt⟩)
   have C2:=Avp (Lg (most:=18446744073709551615) X0.out.d.rd X0.out.d.base)
   unfold RdQ at C2
   rw[h1] at C2
   simp only at C2
   clear h1 S1
   go_wp2_with fail
   rw[<-hX]
   clear hX
   refine C2.out.mono ?_
   rintro _ w3 ⟨hw3,⟨_,rfl,rfl⟩,hr3,hle3⟩
   have X1:=Avp (X0.out.step hw3 hr3)
   have HLE:=Avp hle3
   clear hw3 hr3 hle3 C2 X0
   obtain⟨K,hK⟩:∃ K,K=k+s+v:=⟨_,rfl⟩
   have EK:=Avp hK
   rw[<-hK] at X1 HLE HT
   clear hK
   obtain⟨MT,hMT⟩:∃ MT,MT=C8 n (l.drop K):=⟨_,rfl⟩
   rw[<-hMT] at HT
   have EM:=Avp hMT
   clear hMT
   go_wp2
   go_loopw [6] (fun s wr=>Att B R J X w l nm K MT s wr) (fun s _=>(intOf s).toNat)
   case atStart=>exact⟨n,[],K,_,rfl,by have:=HN.out.2.2.2;omega,X1.out,Nat.le_refl _,by simp,by rw[EM.out,Nat.sub_self];cases C8 n (l.drop K) <;> simp[Dn]⟩
   case round=>
    obtain⟨m,acc,j,u,rfl,hm,hst,hkj,hac,hv⟩:=hrel
    have ST:=Avp hst;have HV:=Avp hv;have HK:=Avp hkj;have HA:=Avp hac
    clear hst hv hkj hac
    cases m with
    | zero=>
     have e:=HV.out
     unfold C8 Dn at e
     simp only[List.append_nil,Nat.add_zero] at e
     have et:=HT.out
     rw[e] at et
     simp only at et
     clear HV HT EM e
     subst et
     obtain⟨Au,cu,rfl⟩:=ST.out.o.shape
     have q0:=ST.out.x.cell 0 rfl;have q1:=ST.out.x.cell 1 rfl
     go_wp2_with ((with_reducible refine Ai (J) ?_ ?_);(next=>rfl))
     unfold Az
     refine Af (J:=J) rfl rfl rfl rfl rfl ST.out.d.bx (show(Tryz.prog.info? 246).map (·.size)=some 2 by kernel_rfl) rfl (by simp[Value.oneCell']) ?_
     intro w9 hx9 hu9
     have X9:=Avp hx9;have U9:=Avp hu9
     clear hx9 hu9
     go_wp2
     refine bodyPost_ret (v:=.agg #[Ac nm,.slice Au acc.length cu]) ?_ rfl ?_
     ·exact D5 Tryz.results382 rfl X9.out Tryz.underlying246 rfl (show(Tryz.prog.info? 246).map (·.size)=some 2 by kernel_rfl)
     obtain⟨k1,k2⟩:=ST.out.d.end_ U9.out
     have lt:=ST.out.lt
     have hj:=ST.out.d.hJ
     refine⟨k1,⟨_,rfl,Au,cu,rfl,(ST.out.o.updNe U9.out (fun e=>by have:=(ST.out.o.own J e).1;omega)).low (by omega)⟩,?_,?_⟩
     ·rw[show k+(s+v+(j - K))=j by have:=HK.out;have:=EK.out;omega];exact k2
     ·have:=k2.le;have:=HK.out;have:=EK.out;omega
    | succ m=>
     have hpos:(0:Int)<((m+1:Nat):Int):=by omega
     have C3:=Avp (Apk ST.out.d.rd ST.out.d.base)
     unfold RdQ at C3
     cases h2:Pq (l.drop j) with
     | none=>
      have e:=HV.out
      rw[Abh h2] at e
      have et:=HT.out
      rw[e] at et
      simp only[Dn] at et
      rw[h2] at C3
      simp only at C3
      clear HV HT EM e h2
      subst et
      go_wp2_with fail
      refine C3.out.mono ?_
      rintro _ w2 ⟨hw2,rfl⟩
      exact⟨rfl,ST.out.d.wr.trans hw2 (.inl rfl),rfl⟩
     | some q=>
      obtain⟨d,v1⟩:=q
      have HO:=Avp h2
      have HO2:=Avp (Kr h2)
      rw[h2] at C3
      simp only at C3
      clear h2
      go_wp2_with fail
      refine C3.out.mono ?_
      rintro _ w4 ⟨hw4,⟨_,rfl,rfl⟩,hr4,hle4⟩
      have X4:=Avp (ST.out.step hw4 hr4)
      clear hw4 hr4 hle4 C3
      obtain⟨Y,hY⟩:∃ Y,Y=w4.heap.size:=⟨_,rfl⟩
      have EY:=Avp hY
      have X5:=Avp (X4.out.mono (w':=w4.alloc (.cells #[.int .i64 d.1,.int .i64 d.2,.int .i64 0,.int .u64 0] 249)) (by go_grown))
      have Y5:=Avp (show Bx (w4.alloc (.cells #[.int .i64 d.1,.int .i64 d.2,.int .i64 0,.int .u64 0] 249)) Y [.int .i64 d.1,.int .i64 d.2,.int .i64 0,.int .u64 0] by rw[hY];exact Bx.new w4 #[.int .i64 d.1,.int .i64 d.2,.int .i64 0,.int .u64 0] 249)
      have XY:=Avp (show X<Y by rw[hY];exact X4.out.x.lt)
      have OY:=Avp (show u.ownBlock≠some Y from fun e=>by have:=(X4.out.o.own Y e).2;omega)
      have RY:=Avp (show Y≠R by have:=X4.out.r;have:=XY.out;omega)
      have C4:=Avp (Lg (most:=2147483647) X5.out.d.rd X5.out.d.base)
      unfold RdQ at C4
      clear X4
      cases h3:Fy 2147483647 (l.drop (j+v1)) with
      | none=>
       have e:=HV.out
       rw[Aa1 HO.out (by rw[Cp];exact h3)] at e
       have et:=HT.out
       rw[e] at et
       simp only[Dn] at et
       rw[h3] at C4
       simp only at C4
       clear HV HT EM e h3 Y5 XY OY RY EY HO
       subst et
       go_wp2_with fail
       refine C4.out.mono ?_
       rintro _ w2 ⟨hw2,rfl⟩
       exact⟨rfl,X5.out.d.wr.trans hw2 (.inl rfl),rfl⟩
      | some q=>
       obtain⟨q,v2⟩:=q
       have HQ:=Avp h3
       have hq2:=Cl h3
       rw[h3] at C4
       simp only at C4
       have wq:=Kt (n:=q) (by omega)
       clear h3 hq2
       go_wp2_with fail
       rw[<-hY]
       clear hY
       refine C4.out.mono ?_
       rintro _ w6 ⟨hw6,⟨_,rfl,rfl⟩,hr6,hle6⟩
       have X6:=Avp (X5.out.step hw6 hr6)
       have Y6:=Avp (Y5.out.wrote hw6 RY.out (by simp))
       clear hw6 hr6 hle6 C4 X5 Y5
       obtain⟨y7,u7⟩:=Y6.out.one (j:=2) (v:=.int .i64 q) (by simp)
       have X7:=Avp (X6.out.upd u7 XY.out OY.out)
       have Y7:=Avp (show Bx (w6.setCell ⟨Y,2,none⟩ (.int .i64 q)) Y [.int .i64 d.1,.int .i64 d.2,.int .i64 q,.int .u64 0] from y7)
       have C5:=Avp (Lg (most:=18446744073709551615) X7.out.d.rd X7.out.d.base)
       unfold RdQ at C5
       have y2:=Y6.out.cell 2 rfl;have yf2:=Y6.out.fr 2 (by simp)
       clear X6 Y6 y7 u7
       cases h4:Fy 18446744073709551615 (l.drop (j+v1+v2)) with
       | none=>
        have e:=HV.out
        rw[Abw HO.out (by rw[Cp];exact HQ.out) (by rw[Cp,<-Nat.add_assoc];exact h4)] at e
        have et:=HT.out
        rw[e] at et
        simp only[Dn] at et
        rw[h4] at C5
        simp only at C5
        clear HV HT EM e h4 Y7 XY OY RY EY HO HQ
        subst et
        go_wp2_with fail
        refine C5.out.mono ?_
        rintro _ w2 ⟨hw2,rfl⟩
        exact⟨rfl,X7.out.d.wr.trans hw2 (.inl rfl),rfl⟩
       | some q3=>
        obtain⟨t,v3⟩:=q3
        have HT4:=Avp h4
        have ht4:=Avp (Cl h4)
        rw[h4] at C5
        simp only at C5
        have E:=Avp (HV.out.trans (Yk HO.out (by rw[Cp];exact HQ.out) (by rw[Cp,<-Nat.add_assoc];exact h4)))
        clear h4 HV
        go_wp2_with fail
        refine C5.out.mono ?_
        rintro _ w8 ⟨hw8,⟨_,rfl,rfl⟩,hr8,hle8⟩
        have X8:=Avp (X7.out.step hw8 hr8)
        have Y8:=Avp (Y7.out.wrote hw8 RY.out (by simp))
        have HLE8:=Avp hle8
        clear hw8 hr8 hle8 C5 X7 Y7 y2 yf2 wq
        obtain⟨y9,u9⟩:=Y8.out.one (j:=3) (v:=.int .u64 t) (by simp)
        have X9':=Avp (X8.out.upd u9 XY.out OY.out)
        have Y9:=Avp (show Bx (w8.setCell ⟨Y,3,none⟩ (.int .u64 t)) Y [.int .i64 d.1,.int .i64 d.2,.int .i64 q,.int .u64 t] from y9)
        have y3:=Y8.out.cell 3 rfl;have yf3:=Y8.out.fr 3 (by simp)
        have y0:=Y8.out.cell 0 rfl;have y1:=Y8.out.cell 1 rfl;have y2:=Y8.out.cell 2 rfl
        have x1:=X8.out.x.cell 1 rfl;have xf1:=X8.out.x.fr 1 (by simp)
        have ne:=XY.out
        clear y9 u9
        have b9:Below (w8.setCell ⟨Y,3,none⟩ (.int .u64 t)).heap.size (w8.setCell ⟨Y,3,none⟩ (.int .u64 t)) ((w8.setCell ⟨Y,3,none⟩ (.int .u64 t)).alloc (.cells (Fj ⟨d,(q:Int),t⟩) 249)):=by go_grown
        have XA:=Avp (X9'.out.mono b9)
        have SL:=Avp (show Sl encM ((w8.setCell ⟨Y,3,none⟩ (.int .u64 t)).alloc (.cells (Fj ⟨d,(q:Int),t⟩) 249)) (some ⟨w8.heap.size,0,none⟩) 1 1 [⟨d,(q:Int),t⟩] by
         have:=Sl.new encM (w8.setCell ⟨Y,3,none⟩ (.int .u64 t)) [⟨d,(q:Int),t⟩] (by simp) (Fj ⟨d,(q:Int),t⟩) (by simp[Enc.all,encM]) 249
         rw[World.size_setCell] at this;exact this)
        have AL:=Avp (show acc.length+1<=1000000000 by have:=HA.out;have:=ST.out.d.rd.le;have:=HL.out;omega)
        clear b9 X8 Y8 Y9 X9'
        go_wp2_with (first
         | (at_builtin;refine Aj (v:=u) (l:=acc) (k:=[⟨d,(q:Int),t⟩]) (B:=X+1) Aba rfl rfl Tryz.underlying244 rfl rfl XA.out.o SL.out AL.out XA.out.x.lt ?_;intro u10 w10 o10 g10 _;obtain⟨A10,c10,e10⟩:=Ag.shape o10;rw[List.length_append,List.length_singleton] at e10;subst e10;have O10:=Avp o10;have HG:=Avp ((Below.refl (X+1) _).grown g10 XA.out.x.lt (fun q hq=>(XA.out.o.own q hq).1));clear o10 g10;have X10:=Avp (XA.out.put HG.out O10.out);have z1:=(XA.out.x.low HG.out (Nat.lt_succ_self X)).cell 1 rfl;have zf:=(XA.out.x.low HG.out (Nat.lt_succ_self X)).fr 1 (by simp);clear x1 xf1 y0 y1 y2 y3 yf3)
         | fail)
        have hk:=HK.out;have ha:=HA.out;have ho:=HO2.out;have h8:=HLE8.out;have hn:=ht4.out
        refine⟨⟨m,acc++[⟨d,(q:Int),t⟩],j+v1+v2+v3,_,rfl,by omega,X10.out,by omega,by simp;omega,?_⟩,by simp[intOf]⟩
        rw[E.out,Cp]
        congr 1
        ·omega
        ·congr 2;omega
 ·rw[if_pos he] at hT
  subst hT
  go_enter Tryz.func382,Tryz.ntmps382
  go_wp2_with fail
  refine C1.out.mono ?_
  rintro _ w1 ⟨rfl,hw1,hr1⟩
  have W1:=Avp hw1
  clear hw1 hr1 C1
  go_wp2_with fail
  refine(Aiw he w1).mono ?_
  rintro _ w2 ⟨rfl,rfl⟩
  exact⟨rfl,S0.out.wr.trans W1.out (.inl rfl),rfl⟩
section
variable {P:Program} {ops:Array Oper} {Q:Exit->Act->World->Prop}
def forced (ops:Array Oper):List Nat->Array Bool->Bool
 | [],listed=>(Region.ready .any ops listed).isEmpty
 | i::r,listed=>(Region.ready .any ops listed==[i])&&forced ops r (listed.setIfInBounds i true)
inductive Sm (ops:Array Oper):List Nat->List Oper->Prop
 | nil:Sm ops [] []
 | cons {i:Nat} {r:List Nat} {o:Oper} {os:List Oper} (h:ops[i]?=some o) (t:Sm ops r os):Sm ops (i::r) (o::os)
theorem Gx {i:Nat} {o:Oper} {os:List Oper} {K:Act->World->Prop} {a:Act} {w:World} (ho:ops[i]?=some o) (hk:∀ a w,wpList P ops Q os a w->K a w) (h:wpList P ops Q (o::os) a w):wpOp P ops Q i K a w:=by
 unfold wpOp
 rw[ho]
 simp only
 unfold wpList at h
 split
 ·rename_i hw
  rw[if_pos hw] at h
  rcases h with h | h
  ·exact .inl (Oper.wp_mono hk h)
  ·exact .inr h
 ·rename_i hw
  rw[if_neg hw] at h
  exact hk _ _ h
theorem Ez:∀ (rem:List Nat) (os:List Oper) (listed:Array Bool) (a:Act) (w:World),forced ops rem listed=true->Sm ops rem os->wpList P ops Q os a w->wpAny P .any ops Q rem.length listed a w
 | [],os,listed,a,w,hf,hm,h=>by
  cases hm
  unfold forced at hf
  exact⟨by simpa using hf,h⟩
 | i::r,os,listed,a,w,hf,hm,h=>by
  cases hm with
  | cons h1 h2=>
   unfold forced at hf
   rw[Bool.and_eq_true] at hf
   refine wpAny_all (rs:=[i]) (by simpa using hf.1) (by simp) fun k hk=>?_
   obtain rfl:=List.mem_singleton.1 hk
   exact Gx h1 (fun a w h=>Ez r _ _ a w hf.2 h2 h) h
theorem Af7 {i j:Nat} (r1 r2:List Nat) {oi oj:Oper} {os1 os2:List Oper} {listed:Array Bool} {a:Act} {w:World} (hr:(Region.ready .any ops listed==[i,j])=true) (f1:forced ops r1 (listed.setIfInBounds i true)=true) (f2:forced ops r2 (listed.setIfInBounds j true)=true) (hl:r1.length=r2.length)
  (hi:ops[i]?=some oi) (hj:ops[j]?=some oj) (m1:Sm ops r1 os1) (m2:Sm ops r2 os2)
  (k1:wpList P ops Q (oi::os1) a w) (k2:wpList P ops Q (oj::os2) a w):wpAny P .any ops Q (r1.length+1) listed a w:=by
 refine wpAny_all (rs:=[i,j]) (by simpa using hr) (by simp) fun k hk=>?_
 rcases List.mem_cons.1 hk with rfl | hk
 ·exact Gx hi (fun a w h=>Ez r1 os1 _ a w f1 m1 h) k1
 ·obtain rfl:=List.mem_singleton.1 hk
  rw[hl]
  exact Gx hj (fun a w h=>Ez r2 os2 _ a w f2 m2 h) k2
theorem Us {i j:Nat} (r1:List Nat) {oi oj:Oper} {os1:List Oper} {listed:Array Bool} {a:Act} {w:World} (hr:(Region.ready .any ops listed==[i,j])=true) (f1:forced ops r1 (listed.setIfInBounds i true)=true)
  (hi:ops[i]?=some oi) (hj:ops[j]?=some oj) (gj:oj.guard=none) (m1:Sm ops r1 os1)
  (k1:wpList P ops Q (oi::os1) a w) (k2:oj.wp P a w (wpAny P .any ops Q r1.length (listed.setIfInBounds j true)) Q):wpAny P .any ops Q (r1.length+1) listed a w:=by
 refine wpAny_all (rs:=[i,j]) (by simpa using hr) (by simp) fun k hk=>?_
 rcases List.mem_cons.1 hk with rfl | hk
 ·exact Gx hi (fun a w h=>Ez r1 os1 _ a w f1 m1 h) k1
 ·obtain rfl:=List.mem_singleton.1 hk
  unfold wpOp
  simp only[hj]
  rw[if_pos (by simp[Region.wanted,gj])]
  exact .inl k2
theorem Gd {f:FuncId} {args:Array Operand} {vs:Array Value} {tys:Array TypeId} {d:Option Tmp} {ty:TypeId} {pos:String} {after:Array Edge} {g:Option (Nat×Bool)} {a:Act} {w:World} {K:Act->World->Prop} {R:Ending->World->Prop} (he:Enters P f) (hv:args.map a.eval=vs) (C:Calls P f vs w R)
  (hr:∀ v w',R (.returned v) w'->K (a.put d v) w') (hp:∀ ch w',R (.panicked ch) w'->Q (.panic ch) a w') (ho:∀ w',¬R .outgrown w'):Oper.wp P ⟨d,.call ⟨.value (.func f),args,tys⟩,ty,pos,after,g⟩ a w K Q:=by
 unfold Oper.wp
 rw[Yq he a w,hv]
 refine C.mono fun e w' h=>?_
 cases e with
 | returned v=>exact hr v w' h
 | panicked ch=>exact hp ch w' h
 | outgrown=>exact absurd h (ho w')
end
def Wf (c:Ctx) (l:List Dot):Ctx×Int:=if Dy c&&Ax l then (Ae0 c l,0) else (([],[]),2)
theorem Ase (A B C:Option Addr) (n ca m cb k ck:Nat) (c:Ctx) (l:List Dot) (w:World) (h:Con w A n ca B m cb c) (hl:Bc w C k ck l) (hs:Small (n+(m+k)+1)) :
  Calls Tryz.prog 343 #[.agg #[.slice A n ca,.slice B m cb],.slice C k ck] w (Ret w (Dw (Ec w.heap.size (Wf c l).1) (Wf c l).2)):=by
 unfold Wf
 cases hv:Dy c&&Ax l with
 | true=>rw[Bool.and_eq_true] at hv;exact Avl A B C n ca m cb k ck c l w h hl hs hv.1 hv.2
 | false=>exact Aoo A B C n ca m cb k ck c l w h hl hv
theorem Avd (C:Option Addr) (k ck:Nat) (l:List Dot) (w:World) (hl:Bc w C k ck l) (hs:Small (k+1)) :
  Calls Tryz.prog 265 #[.slice C k ck] w (Ret w (Dw (Ec w.heap.size (Wf ([],[]) l).1) (Wf ([],[]) l).2)):=by
 have hb0:Below w.heap.size w (w.alloc (Ba none 0 0 none 0 0)):=by go_grown
 have z0:(w.alloc (Ba none 0 0 none 0 0)).cell? ⟨w.heap.size,0,none⟩=some (.slice none 0 0):=by simp[go_sem]
 have z1:(w.alloc (Ba none 0 0 none 0 0)).cell? ⟨w.heap.size,1,none⟩=some (.slice none 0 0):=by simp[go_sem]
 have zf:∀ o,(w.alloc (Ba none 0 0 none 0 0)).frozen? ⟨w.heap.size,o,none⟩=false:=fun o=>by simp[go_sem]
 have f:=Ase none none C 0 0 0 0 k ck ([],[]) l _ ⟨Bc.nil_,Bc.nil_⟩ (hl.mono hb0) (by have:=hs.out;unfold Small;omega)
 generalize Wf ([],[]) l=r at *
 obtain⟨c',e'⟩:=r
 have F:=Avp f;have HB:=Avp hb0;have Z0:=Avp z0;have Z1:=Avp z1;have ZF:=Avp zf
 clear f hb0 z0 z1 zf hl
 go_enter Tryz.func265,Tryz.ntmps265
 go_wp2_with fail
 refine F.out.mono ?_
 rintro e w1 ⟨_,rfl,hb1,_,rfl,A1,n1,c1,B1,m1,d1,rfl,r1,r2,hap⟩
 have x0:=Ad hb1 Z0.out
 have x1:=Ad hb1 Z1.out
 have yf0:w1.frozen? ⟨w.heap.size,0,none⟩=false:=(hb1.frozen (p:=⟨w.heap.size,0,none⟩) (by simp)).trans (ZF.out 0)
 have yf1:w1.frozen? ⟨w.heap.size,1,none⟩=false:=(hb1.frozen (p:=⟨w.heap.size,1,none⟩) (by simp)).trans (ZF.out 1)
 have hz:w.heap.size<w1.heap.size:=World.block_lt_of_cell? w1 _ x0
 have s0:=Ca (v:=.slice A1 n1 c1) x0
 have s1:=Ca (v:=.slice B1 m1 d1) (Cs (b:=⟨w.heap.size,0,none⟩) (v:=.slice A1 n1 c1) (by simp) x1)
 have HE2:=Avp hb1;have R1:=Avp r1;have R2:=Avp r2;have HAP:=Avp hap
 clear hb1 r1 r2 hap F
 go_wp2
 refine bodyPost_ret (v:=.tuple #[.agg #[.slice A1 n1 c1,.slice B1 m1 d1],.int .i64 e']) (by simp[results,Tryz.results265,go_sem,s0,s1]) rfl ?_
 have ho1:∀ j,(Value.slice A1 n1 c1).ownBlock=some j->j≠w.heap.size:=fun j hj=>by have h:=Row.own _ R1.out j hj;simp at h;omega
 have ho2:∀ j,(Value.slice B1 m1 d1).ownBlock=some j->j≠w.heap.size:=fun j hj=>by have h:=Row.own _ R2.out j hj;simp at h;omega
 exact⟨_,rfl,((HB.out.le HE2.out).setCell (p:=⟨w.heap.size,0,none⟩) (by simp) _).setCell (p:=⟨w.heap.size,1,none⟩) (by simp) _,_,rfl,_,_,_,_,_,_,rfl,
  Row.low (Row.set_ (Row.set_ R1.out (p:=⟨w.heap.size,0,none⟩) ho1 _) (p:=⟨w.heap.size,1,none⟩) ho1 _) (by simp),Row.low (Row.set_ (Row.set_ R2.out (p:=⟨w.heap.size,0,none⟩) ho2 _) (p:=⟨w.heap.size,1,none⟩) ho2 _) (by simp),HAP.out⟩
theorem Asz {D D2:Nat->Prop} {w:World} {p p2:CPl} {a b:Ar} (h:Bg D w p a) (h2:Bg D2 w p2 b) (hn:Bk w) (hs:Bd a) (hs2:Bd b) :
  Calls Tryz.prog 196 #[Cd p,Cd p2] w (Ret w (Dw (Ed w.heap.size (Im a b).1) (Im a b).2)):=by
 cases hv:Bo a&&Bo b with
 | false=>rw[Ah6 hv];exact Aig h h2 hn hs hs2 hv
 | true=>
  have e:Im a b=(⟨Em a.ctx b.ctx,Db a b (Dg a b)⟩,0):=by unfold Im;rw[hv];rfl
  rw[e]
  rw[Bool.and_eq_true] at hv
  exact Ae5 h h2 hn hs hs2 hv.1 hv.2
def Ja (l:List Dot):Ar:=⟨(Wf ([],[]) l).1,[]⟩
def Ano (B:Nat) (c:Ar) (w:World) (v:Value):Prop:=∃ p:CPl,v=Cd p∧Bg (fun b=>B<=b∧b<w.heap.size) w p c
theorem Kk {w:World} {B:Nat} {v:Value} {l:List Dot} (h:Row w B v l):∃ A c,v = .slice A l.length c∧Bc w A l.length c l∧InD (fun b=>B<=b∧b<w.heap.size) A:=by
 obtain⟨A,c,e,hd,_⟩:=Hg h
 exact⟨A,c,e,hd,fun a ea=>World.ownsRow.lt h a.block (by rw[e,ea];rfl)⟩
theorem Ai8 {w:World} {B:Nat} {v:Value} {l:List Dot} (h:Row w B v l) (hs:l.length<=900000):Calls Tryz.prog 194 #[v] w (Ret w (Ano w.heap.size (Ja l))):=by
 obtain⟨C,ck,rfl,hd,_⟩:=Hg h
 have hb0:Below w.heap.size w (w.alloc (.cells cartZ 141)):=by go_grown
 have X:=Avp (Bx.new w cartZ 141)
 have F:=Avp (Avd C l.length ck l _ (hd.mono hb0) (by unfold Small;omega))
 have HB:=Avp hb0
 obtain⟨N,hN⟩:∃ N,N=w.heap.size:=⟨_,rfl⟩
 have EN:=Avp hN
 rw[<-hN] at X
 clear h hd hb0
 unfold Ja
 generalize Wf ([],[]) l=r at *
 obtain⟨cx,e⟩:=r
 go_enter Tryz.func194,Tryz.ntmps194
 go_wp2_with fail
 rw[<-hN]
 refine F.out.mono ?_
 rintro _ w1 ⟨_,rfl,hb1,_,rfl,A1,n1,c1,B1,m1,d1,rfl,r1,r2,_⟩
 rw[World.size_alloc,<-hN] at r1 r2
 clear hN
 replace X:=Avp (X.out.mono hb1)
 replace HB:=Avp (HB.out.le hb1)
 obtain⟨_,_,e1,da,ia⟩:=Kk r1
 cases e1
 obtain⟨_,_,e2,db,ib⟩:=Kk r2
 cases e2
 have W1:=Avp (show N<w1.heap.size from X.out.lt)
 have ha:Below w1.heap.size w1 (w1.alloc (.cells #[.slice A1 cx.1.length c1,.slice B1 cx.2.length d1] 138)):=by go_grown
 have DA:=Avp (And.intro (da.mono ha) ia);have DB:=Avp (And.intro (db.mono ha) ib)
 replace X:=Avp (X.out.mono ha)
 replace HB:=Avp (HB.out.le ha)
 clear hb1 r1 r2 F da ia db ib ha
 go_wp2_with ((with_reducible refine Ai (N) ?_ ?_);(next=>rfl))
 unfold Az
 refine Af (J:=N) rfl rfl rfl rfl rfl X.out (show(Tryz.prog.info? 141).map (·.size)=some 3 by kernel_rfl) rfl (by simp[Value.oneCell']) ?_
 intro w9 hx9 hu9
 have X9:=Avp hx9;have U9:=Avp hu9
 clear hx9 hu9
 go_wp2
 refine bodyPost_ret (v:=Cd ⟨A1,cx.1.length,c1,B1,cx.2.length,d1,none,0,0⟩) ?_ rfl ?_
 ·exact D5 Tryz.results194 rfl X9.out Tryz.underlying141 rfl (show(Tryz.prog.info? 141).map (·.size)=some 3 by kernel_rfl)
 have eno:=EN.out
 have w1o:=W1.out
 have u9:=U9.out.size
 rw[World.size_alloc] at u9
 exact⟨_,rfl,K7 HB.out U9.out EN,⟨A1,cx.1.length,c1,B1,cx.2.length,d1,none,0,0⟩,rfl,DA.out.1.updD DA.out.2 U9.out (by omega),DB.out.1.updD DB.out.2 U9.out (by omega),⟨[],rfl,Sl.nil_ _ _,InD.nil_ _,by simp⟩,DA.out.2.mono (fun x hx=>by omega),DB.out.2.mono (fun x hx=>by omega)⟩
theorem Oh {c:Ar} {nm:List UInt8} (h:Bd c):(Dl c nm).length<=800000:=by
 have h0:(Cn c.items).length<=200000:=by unfold Bd Ch at h;omega
 unfold Dl
 split
 ·split
  ·have:=Cy (Cn c.items) []
   unfold Gf
   simp at this
   omega
  ·split
   ·simp
   ·rename_i x hx
    have:=J7 (List.mem_of_find?_eq_some hx)
    simp[Dk];omega
 ·simp
theorem Aax {c:Ar} {nm:List UInt8} (h:Bd c):(Dl c nm).length<=900000:=Nat.le_trans (Oh h) (by omega)
theorem Ed.zero (B:Nat) (w:World):Ed B Bj w (.agg cartZ):=⟨⟨none,0,0,none,0,0,none,0,0⟩,rfl,Bc.nil_,Bc.nil_,⟨[],rfl,Sl.nil_ _ _,InD.nil_ _,by simp⟩,InD.nil_ _,InD.nil_ _⟩
theorem Bg.retN {w w':World} {p:CPl} {c:Ar} {J Z B:Nat} (h:Bg (fun b=>Z<=b) w p c) (hu:Upd J w w') (hJ:J<Z) (hB:B<=Z):Bg (fun b=>B<=b) w' p c:=(h.upd hu (by omega)).mono (Below.refl _ _) (fun b hb=>Nat.le_trans hB hb)
end Go.Proofs.YthnbhjpahlceeaaGreatDoor
namespace Go.Proofs
open Go.Shelf
def Tryz.hasL_ren:Go.Shelf.Ren:=⟨fun | 144=>230 | 143=>311 | 219=>383 | 217=>419 | 225=>372 | 224=>371 | 267=>424 | 266=>451 | 314=>452 | n=>n,fun | 9=>9 | 4=>4 | 3=>3 | 5=>5 | 46=>233 | 146=>320 | 51=>132 | n=>n,fun | 1=>2 | n=>n⟩
theorem Tryz.hasL:Go.Proofs.Lays.n144 Tryz.prog Tryz.hasL_ren:={
 mixed:=by kernel_rfl
 f143:=Tryz.func311.trans (congrArg some (by kernel_rfl))
 f144:=Tryz.func230.trans (congrArg some (by kernel_rfl))
 f217:=Tryz.func419.trans (congrArg some (by kernel_rfl))
 f219:=Tryz.func383.trans (congrArg some (by kernel_rfl))
 f224:=Tryz.func371.trans (congrArg some (by kernel_rfl))
 f225:=Tryz.func372.trans (congrArg some (by kernel_rfl))
 f266:=Tryz.func451.trans (congrArg some (by kernel_rfl))
 f267:=Tryz.func424.trans (congrArg some (by kernel_rfl))
 f314:=Tryz.func452.trans (congrArg some (by kernel_rfl))
 t3:=Tryz.underlying3
 a3:=Tryz.isAgg3
 z3:=Tryz.sizeOf3
 v3:=Tryz.zeroValue3
 t4:=Tryz.underlying4
 a4:=Tryz.isAgg4
 z4:=Tryz.sizeOf4
 v4:=Tryz.zeroValue4
 t5:=Tryz.underlying5
 a5:=Tryz.isAgg5
 z5:=Tryz.sizeOf5
 v5:=Tryz.zeroValue5
 t9:=Tryz.underlying9
 a9:=Tryz.isAgg9
 z9:=Tryz.sizeOf9
 v9:=Tryz.zeroValue9
 t46:=Tryz.underlying233
 a46:=Tryz.isAgg233
 z46:=Tryz.sizeOf233
 v46:=Tryz.zeroValue233
 t51:=Tryz.underlying132
 a51:=Tryz.isAgg132
 z51:=Tryz.sizeOf132
 v51:=Tryz.zeroValue132
 t146:=Tryz.underlying320
 a146:=Tryz.isAgg320
 z146:=Tryz.sizeOf320
 v146:=Tryz.zeroValue320
 g1:=by kernel_rfl }
def Tryz.runeL_ren:Go.Shelf.Ren:=⟨fun | 151=>215 | 152=>288 | 137=>369 | 119=>370 | 224=>371 | 225=>372 | 217=>419 | 266=>451 | n=>n,fun | 9=>9 | 21=>21 | 4=>4 | 3=>3 | 5=>5 | 0=>0 | 46=>233 | n=>n,fun | n=>n⟩
theorem Tryz.runeL:Go.Proofs.Lays.n151 Tryz.prog Tryz.runeL_ren:={
 mixed:=by kernel_rfl
 f119:=Tryz.func370.trans (congrArg some (by kernel_rfl))
 f137:=Tryz.func369.trans (congrArg some (by kernel_rfl))
 f151:=Tryz.func215.trans (congrArg some (by kernel_rfl))
 f152:=Tryz.func288.trans (congrArg some (by kernel_rfl))
 f217:=Tryz.func419.trans (congrArg some (by kernel_rfl))
 f224:=Tryz.func371.trans (congrArg some (by kernel_rfl))
 f225:=Tryz.func372.trans (congrArg some (by kernel_rfl))
 f266:=Tryz.func451.trans (congrArg some (by kernel_rfl))
 t0:=Tryz.underlying0
 a0:=Tryz.isAgg0
 z0:=Tryz.sizeOf0
 v0:=Tryz.zeroValue0
 t3:=Tryz.underlying3
 a3:=Tryz.isAgg3
 z3:=Tryz.sizeOf3
 v3:=Tryz.zeroValue3
 t4:=Tryz.underlying4
 a4:=Tryz.isAgg4
 z4:=Tryz.sizeOf4
 v4:=Tryz.zeroValue4
 t5:=Tryz.underlying5
 a5:=Tryz.isAgg5
 z5:=Tryz.sizeOf5
 v5:=Tryz.zeroValue5
 t9:=Tryz.underlying9
 a9:=Tryz.isAgg9
 z9:=Tryz.sizeOf9
 v9:=Tryz.zeroValue9
 t21:=Tryz.underlying21
 a21:=Tryz.isAgg21
 z21:=Tryz.sizeOf21
 v21:=Tryz.zeroValue21
 t46:=Tryz.underlying233
 a46:=Tryz.isAgg233
 z46:=Tryz.sizeOf233
 v46:=Tryz.zeroValue233 }
end Go.Proofs
namespace Go.Proofs.YthnbhjpahlceeaaGreatDoor
open Go.RowKit
def Amm (l:List (List UInt8)) (s:List UInt8):Int:=Gp (fun y=>decide (s=y)) 0 l
theorem Al5 (A:Option Addr) (n c:Nat) (l:List (List UInt8)) (s:List UInt8) (w:World) (h:Sl encS w A n c l) :
  Calls Tryz.prog 216 #[.slice A n c,Ac s] w (Ret w (IsI (Amm l s))):=by
 have hn:=h.big
 have H:=Avp h;clear h
 unfold Amm
 go_enter Tryz.func216,Tryz.ntmps216
 go_wp2
 go_loopw [8] (fun i wr=>H9 w n l (fun y=>decide (s=y)) i wr) (fun i _=>n - (intOf i).toNat)
 case atStart=>exact⟨0,rfl,by omega,Below.refl _ _,by simp⟩
 case round=>
  obtain⟨k,rfl,hk,hb,hs⟩:=hrel
  have HS:=Avp hs;have HB:=Avp hb
  clear hs hb
  by_cases hlt:k<n
  ·obtain⟨b,o,m,hA,hbk,hm,hd,cs⟩:=(H.out.mono HB.out).at_ (i:=k) hlt
   have c0:wr.cell? ⟨b,o+k,none⟩=some (Ac m):=by have:=cs 0 _ rfl;simpa [encS] using this
   have hix:=(show(Instr.indexAt 67 (.slice A n c) (.int .i64 (k:Int))).run Tryz.prog wr = .ok (.pointer (some ⟨b,o+k,none⟩)) wr by rw[hA];simp[go_sem,hlt])
   have D1:=Avp hd
   have LT:=Avp hlt
   clear hd hm hA cs
   cases hl:decide (s=m) with
   | true=>
    have he:(s==m)=true:=by rw[<-hl,Bool.eq_iff_iff];simp
    have HL:=Avp hl;clear hl
    go_wp2
    go_ret
    exact⟨_,rfl,HB.out,by rw[HS.out,D1.out,Gp,HL.out];rfl⟩
   | false=>
    have he:(s==m)=false:=by rw[<-hl,Bool.eq_iff_iff];simp
    have HL:=Avp hl;clear hl
    go_wp2
    go_roundw
    case rel=>exact H9.next HB.out (Below.refl _ _) LT.out D1.out HS.out HL.out
    case measure=>simp[intOf];have:=LT.out;omega
  ·have LN:=Avp (show l.length<=k by have:=H.out.len;omega)
   go_wp2
   go_ret
   exact⟨_,rfl,HB.out,by rw[HS.out,List.drop_eq_nil_of_le LN.out];rfl⟩
def Mf (l:List (List UInt8)) (s:List UInt8):Bool:=l.any fun y=>decide (s=y)
theorem Ab9 (A:Option Addr) (n c:Nat) (l:List (List UInt8)) (s:List UInt8) (w:World) (h:Sl encS w A n c l) :
  Calls Tryz.prog 138 #[.slice A n c,Ac s] w (Ret w (IsB (Mf l s))):=by
 have C:=Avp (Al5 A n c l s w h)
 have hx:=Ry (fun y=>decide (s=y)) l 0
 unfold Mf
 change decide (0<=Amm l s)=_ at hx
 generalize Amm l s=i at *
 generalize (l.any fun y=>decide (s=y))=r at *
 have HX:=Avp hx
 clear hx h
 go_enter Tryz.func138,Tryz.ntmps138
 go_wp2_with (go_at_call 216;((with_reducible refine C.out.mono ?_);rintro e w1 ⟨_,rfl,hb1,rfl⟩))
 go_ret
 exact⟨_,rfl,hb1,by rw[HX.out];rfl⟩
abbrev Akg (d:Dot):Value:=.agg #[.int .i64 d.1,.int .i64 d.2]
abbrev So (d:Dot):Array Value:=#[.int .i64 d.1,.int .i64 d.2]
structure DAt (w:World) (J:Nat) (d:Dot):Prop where
 c0:w.cell? ⟨J,0,none⟩=some (.int .i64 d.1)
 c1:w.cell? ⟨J,1,none⟩=some (.int .i64 d.2)
theorem DAt.mono {w w':World} {J:Nat} {d:Dot} (h:DAt w J d) (hb:Below w.heap.size w w'):DAt w' J d:=⟨Ad hb h.c0,Ad hb h.c1⟩
theorem DAt.new (w:World) (d:Dot):DAt (w.alloc (.cells (So d) 224)) w.heap.size d:=⟨by simp[go_sem],by simp[go_sem]⟩
def Ri (c:Ar) (d:Dot):Bool:=Bo c&&(Bm d && !Kf c.ctx d)
theorem Aa2 {c:Ar} {d:Dot} {a b e:Bool} (h1:Bo c=a) (h2:Bm d=b) (h3:Kf c.ctx d=e):Ri c d=(a&&(b && !e)):=by unfold Ri;rw[h1,h2,h3]
theorem Aq3 {D:Nat->Prop} {w:World} {p:CPl} {c:Ar} (d:Dot) (h:Bg D w p c) (hn:Bk w) (hs:Bd c):Calls Tryz.prog 200 #[Cd p,Akg d] w (Ret w (IsB (Ri c d))):=by
 obtain⟨N,hN⟩:∃ N,N=w.heap.size:=⟨_,rfl⟩
 obtain⟨w3,hw3⟩:∃ w3,w3=(w.alloc (.cells (Aw p) 141)).alloc (.cells (So d) 224):=⟨_,rfl⟩
 have hb:Below w.heap.size w w3:=by rw[hw3];go_grown
 have k1:KAt w3 N p:=by rw[hw3,hN];exact((KAt.new w p).mono (by go_grown))
 have d1:DAt w3 (N+1) d:=by rw[hw3,hN];have:=DAt.new (w.alloc (.cells (Aw p) 141)) d;rw[World.size_alloc] at this;exact this
 have V:=Avp (Eo (h.mono hb fun _ x=>x) (hn.mono hb) hs)
 have HB:=Avp hb;have K1:=Avp k1;have DD:=Avp d1;have H:=Avp (h.mono hb fun _ x=>x);have HW3:=Avp hw3
 have C2:=Avp (fun w=>show Calls Tryz.prog 162 #[Akg d] w (Ret w (IsB (Bm d))) from Lw d.1 d.2 w)
 have C3:=Avp (fun w' (hb':Below w3.heap.size w3 w')=>show Calls Tryz.prog 274 #[Alm p,Akg d] w' (Ret w' (IsB (Kf c.ctx d))) from Ao8 d.1 d.2 p.A p.B p.n p.ca p.m p.cb c.ctx w' ((h.con.mono hb).mono hb'))
 have hx:=@Aa2 c d _ _ _ rfl rfl rfl
 rw[hx]
 clear hb k1 d1 h hn hs hx hw3
 have k0:=K1.out.c0;have k1:=K1.out.c1;have k2:=K1.out.c2
 generalize Bo c=a at *
 generalize Bm d=b at *
 generalize Kf c.ctx d=e at *
 cases a with
 | false=>
  go_enter Tryz.func200,Tryz.ntmps200
  go_wp2_with fail
  rw[<-hN,<-HW3.out]
  clear hN HW3
  go_wp2_with fail
  refine V.out.mono ?_
  rintro _ w1 ⟨_,rfl,hb1,rfl⟩
  replace K1:=Avp (K1.out.mono hb1);replace DD:=Avp (DD.out.mono hb1);replace HB:=Avp (HB.out.le hb1)
  replace H:=Avp (H.out.mono hb1 fun _ x=>x)
  clear hb1 k0 k1 k2
  go_wp2
  go_ret
  exact Ay rfl HB.out
 | true=>
  have W3:=Avp (Below.refl w3.heap.size w3)
  cases b with
  | false=>
   go_enter Tryz.func200,Tryz.ntmps200
   go_wp2_with fail
   rw[<-hN,<-HW3.out]
   clear hN HW3
   go_wp2_with fail
   refine V.out.mono ?_
   rintro _ w1 ⟨_,rfl,hb1,rfl⟩
   replace K1:=Avp (K1.out.mono hb1);replace DD:=Avp (DD.out.mono hb1);replace HB:=Avp (HB.out.le hb1)
   replace H:=Avp (H.out.mono hb1 fun _ x=>x)
   have d0:=DD.out.c0;have d1:=DD.out.c1
   clear hb1 k0 k1 k2
   go_wp2_with fail
   refine(C2.out _).mono ?_
   rintro _ w2 ⟨_,rfl,hb2,rfl⟩
   replace K1:=Avp (K1.out.mono hb2);replace DD:=Avp (DD.out.mono hb2);replace HB:=Avp (HB.out.le hb2)
   replace H:=Avp (H.out.mono hb2 fun _ x=>x)
   clear hb2 d0 d1
   go_wp2
   go_ret
   exact Ay rfl HB.out
  | true=>
   go_enter Tryz.func200,Tryz.ntmps200
   go_wp2_with fail
   rw[<-hN,<-HW3.out]
   clear hN HW3
   go_wp2_with fail
   refine V.out.mono ?_
   rintro _ w1 ⟨_,rfl,hb1,rfl⟩
   replace K1:=Avp (K1.out.mono hb1);replace DD:=Avp (DD.out.mono hb1);replace HB:=Avp (HB.out.le hb1)
   replace H:=Avp (H.out.mono hb1 fun _ x=>x)
   replace W3:=Avp (W3.out.le hb1)
   have d0:=DD.out.c0;have d1:=DD.out.c1
   clear hb1 k0 k1 k2
   go_wp2_with fail
   refine(C2.out _).mono ?_
   rintro _ w2 ⟨_,rfl,hb2,rfl⟩
   replace K1:=Avp (K1.out.mono hb2);replace DD:=Avp (DD.out.mono hb2);replace HB:=Avp (HB.out.le hb2)
   replace H:=Avp (H.out.mono hb2 fun _ x=>x)
   replace W3:=Avp (W3.out.le hb2)
   clear hb2 d0 d1
   have d0:=DD.out.c0;have d1:=DD.out.c1
   have k0:=K1.out.c0;have k1:=K1.out.c1
   go_wp2_with fail
   refine(C3.out _ W3.out).mono ?_
   rintro _ w3' ⟨_,rfl,hb3,rfl⟩
   replace K1:=Avp (K1.out.mono hb3);replace DD:=Avp (DD.out.mono hb3);replace HB:=Avp (HB.out.le hb3)
   replace H:=Avp (H.out.mono hb3 fun _ x=>x)
   clear hb3 d0 d1 k0 k1
   go_wp2
   go_ret
   exact Ay (by simp) HB.out
def Nt (there:Bool) (n:Nat):Int:=if there then 0 else if 256<=n then 13 else 0
theorem Ac6 (b:Bool) (n:Nat) (w:World):Calls Tryz.prog 254 #[.bool b,.int .i64 (n:Int)] w (Ret w (IsI (Nt b n))):=by
 unfold Nt
 cases b
 ·by_cases h:256<=n
  ·have h2:(256:Int)<=(n:Int):=by omega
   go_enter Tryz.func254,Tryz.ntmps254
   go_wp2
   go_ret
   exact⟨_,rfl,Below.refl _ _,by simp[h,IsI,Is]⟩
  ·have h2:¬(256:Int)<=(n:Int):=by omega
   go_enter Tryz.func254,Tryz.ntmps254
   go_wp2
   go_ret
   exact⟨_,rfl,Below.refl _ _,by simp[h,IsI,Is]⟩
 ·go_enter Tryz.func254,Tryz.ntmps254
  go_wp2
  go_ret
  exact⟨_,rfl,Below.refl _ _,by simp[IsI,Is]⟩
theorem Aj8 (w:World) (d:Dot) (ty:TypeId):Bc (w.alloc (.cells #[.int .i64 d.1,.int .i64 d.2] ty)) (some ⟨w.heap.size,0,none⟩) 1 1 [d]:=by
 refine⟨rfl,Nat.le_refl _,by unfold maxLen;omega,(fun h=>nomatch h),fun i x hi=>?_⟩
 have hi':i=0:=by have:=(List.getElem?_eq_some_iff.1 hi).1;simpa using this
 subst hi'
 simp at hi;subst hi
 exact⟨w.heap.size,0,rfl,by simp,by simp[go_sem],by simp[go_sem]⟩
theorem DAt.low {w w':World} {N B:Nat} {d:Dot} (h:DAt w N d) (hb:Below B w w') (hN:N<B):DAt w' N d:=
 ⟨(World.cell?_of_block (a:=⟨N,0,none⟩) (hb.block N hN)).trans h.c0,(World.cell?_of_block (a:=⟨N,1,none⟩) (hb.block N hN)).trans h.c1⟩
def Apn (f:FuncId) (chk:Bool->Nat->Int):Prop:=∀ (w:World) (X O K:Nat) (A C:Option Addr) (n c k cc:Nat),w.cell? ⟨X,1,none⟩=some (.func (.func f) #[] #[])->w.cell? ⟨O,0,none⟩=some (.slice A n c)->w.cell? ⟨K,2,none⟩=some (.slice C k cc) ->
 Calls Tryz.prog 324 #[.pointer (some ⟨X,0,none⟩),.pointer (some ⟨O,0,none⟩),.pointer (some ⟨K,0,none⟩)] w (Ret w (IsI (chk (decide (0<n)) k)))
theorem Ark:Apn 254 Nt:=by
 intro w X O K A C n c k cc h1 h2 h3
 by_cases hp:0<n
 ·have F:=Avp (Ac6 true k w)
  have e:decide (0<n)=true:=decide_eq_true hp
  rw[e]
  go_enter Tryz.func324,Tryz.ntmps324
  go_wp2_with (go_at_call 254;((with_reducible refine F.out.mono ?_);rintro e w1 ⟨_,rfl,hb1,rfl⟩))
  go_ret
  exact⟨_,rfl,hb1,rfl⟩
 ·have F:=Avp (Ac6 false k w)
  have e:decide (0<n)=false:=decide_eq_false hp
  rw[e]
  go_enter Tryz.func324,Tryz.ntmps324
  go_wp2_with (go_at_call 254;((with_reducible refine F.out.mono ?_);rintro e w1 ⟨_,rfl,hb1,rfl⟩))
  go_ret
  exact⟨_,rfl,hb1,rfl⟩
def Fn (chk:Bool->Nat->Int) (c:Ar) (d:Dot) (nm:List UInt8) (q:Int):Ar×Int:=
 if Ri c d&&Gn nm then
  if Nn q then
   if chk (decide (0<(Dl c nm).length)) c.items.length=0 then
    if (Ik c).2=0 then (⟨(Ja (Dl c nm++[d])).ctx,[(nm,[⟨d,q,(Ik c).1⟩])]⟩,0) else (Bj,(Ik c).2)
   else (Bj,chk (decide (0<(Dl c nm).length)) c.items.length)
  else (Bj,14)
 else (Bj,2)
structure Abv (w0:World) (N:Nat) (f:FuncId) (nm:List UInt8) (D:Nat->Prop) (p:CPl) (c:Ar) (d:Dot) (wr:World):Prop where
 n0:N=w0.heap.size
 le:Below w0.heap.size w0 wr
 x0:wr.cell? ⟨N,0,none⟩=some (Ac nm)
 x1:wr.cell? ⟨N,1,none⟩=some (.func (.func f) #[] #[])
 k:KAt wr (N+1) p
 d:DAt wr (N+2) d
 b:Bx wr (N+3) cartZ.toList
 h:Bg D wr p c
 nm:Bk wr
theorem Abv.mono {w0:World} {N:Nat} {f:FuncId} {nm:List UInt8} {D:Nat->Prop} {p:CPl} {c:Ar} {d:Dot} {wr w':World} (h:Abv w0 N f nm D p c d wr) (hb:Below wr.heap.size wr w'):Abv w0 N f nm D p c d w':=
 ⟨h.n0,h.le.le hb,Ad hb h.x0,Ad hb h.x1,h.k.mono hb,h.d.mono hb,h.b.mono hb,h.h.mono hb fun _ x=>x,h.nm.mono hb⟩
abbrev mkW (w:World) (nm:List UInt8) (f:FuncId) (p:CPl) (d:Dot):World:=(((w.alloc (.cells #[Ac nm,.func (.func f) #[] #[]] 351)).alloc (.cells (Aw p) 141)).alloc (.cells (So d) 224)).alloc (.cells cartZ 141)
theorem Abv.start {w:World} {f:FuncId} {nm:List UInt8} {D:Nat->Prop} {p:CPl} {c:Ar} {d:Dot} (h:Bg D w p c) (hn:Bk w):Abv w w.heap.size f nm D p c d (mkW w nm f p d):=by
 have hb:Below w.heap.size w (mkW w nm f p d):=by go_grown
 refine⟨rfl,hb,by simp[go_sem],by simp[go_sem],?_,?_,?_,h.mono hb fun _ x=>x,hn.mono hb⟩
 ·have:=KAt.new (w.alloc (.cells #[Ac nm,.func (.func f) #[] #[]] 351)) p;rw[World.size_alloc] at this;exact this.mono (by go_grown)
 ·have:=DAt.new ((w.alloc (.cells #[Ac nm,.func (.func f) #[] #[]] 351)).alloc (.cells (Aw p) 141)) d;rw[World.size_alloc,World.size_alloc] at this;exact this.mono (by go_grown)
 ·have:=Bx.new (((w.alloc (.cells #[Ac nm,.func (.func f) #[] #[]] 351)).alloc (.cells (Aw p) 141)).alloc (.cells (So d) 224)) cartZ 141
  rw[World.size_alloc,World.size_alloc,World.size_alloc] at this;exact this
theorem Aky {c:Ar} (h:∀ m∈Js c.items,Jk m) (h0:(Ik c).2=0):(Ik c).1<=18446744073709551615:=by
 unfold Ik at h0 ⊢
 split at h0
 ·rename_i hv
  rw[if_pos hv]
  unfold Ol at h0 ⊢
  split at h0
  ·rename_i hm
   rw[if_pos hm]
   split at h0
   ·cases h0
   ·rename_i hq
    rw[if_neg hq]
    have:=Za h
    simp only
    omega
  ·cases h0
 ·cases h0
theorem Ar0 {f:FuncId} {chk:Bool->Nat->Int} (hf:Apn f chk) {D:Nat->Prop} {w:World} {p:CPl} {c:Ar} {d:Dot} {nm:List UInt8} {q:Int} (h:Bg D w p c) (hn:Bk w) (hs:Bd c) (hnb:nm.length<=1000000) :
  Calls Tryz.prog 255 #[.agg #[Ac nm,.func (.func f) #[] #[]],Cd p,Akg d,.int .i64 q] w (Ret w (Dw (Ed w.heap.size (Fn chk c d nm q).1) (Fn chk c d nm q).2)):=by
 have HNB:=Avp hnb
 clear hnb
 obtain⟨N,hN⟩:∃ N,N=w.heap.size:=⟨_,rfl⟩
 have HN:=Avp hN
 have s0:Abv w N f nm D p c d (mkW w nm f p d):=by rw[hN];exact Abv.start h hn
 obtain⟨w0,hw0⟩:∃ w0,w0=mkW w nm f p d:=⟨_,rfl⟩
 rw[<-hw0] at s0
 have S:=Avp s0;have HW:=Avp (show w0=(((w.alloc (.cells #[Ac nm,.func (.func f) #[] #[]] 351)).alloc (.cells (Aw p) 141)).alloc (.cells (So d) 224)).alloc (.cells cartZ 141) from hw0);have HS:=Avp hs;have HF:=Avp hf
 have KL:=Avp (show p.k=c.items.length by obtain⟨es,he,h3,_⟩:=h.its;rw[h3.len,<-he,List.length_map])
 obtain⟨r,hr⟩:∃ r,r=Fn chk c d nm q:=⟨_,rfl⟩
 rw[<-hr]
 have HR:=Avp hr
 clear s0 hw0 hs h hn hf hr
 have x0:=S.out.x0;have k0:=S.out.k.c0;have k1:=S.out.k.c1;have k2:=S.out.k.c2;have d0:=S.out.d.c0;have d1:=S.out.d.c1
 go_enter Tryz.func255,Tryz.ntmps255
 go_wp2_with fail
 rw[<-hN,<-HW.out]
 clear hN HW
 go_wp2_with fail
 refine(Ar6 (nm:=nm) S.out.h S.out.nm HS.out).mono ?_
 rintro _ w1 ⟨v1,rfl,hb1,r1⟩
 have SZ:=Avp (show N+4<=w0.heap.size from S.out.b.lt)
 obtain⟨A1,c1,rfl,s1,_⟩:=Hg r1
 obtain⟨O,hO⟩:∃ O,O=w1.heap.size:=⟨_,rfl⟩
 have ho:Below w1.heap.size w1 (w1.alloc (.cells #[.slice A1 (Dl c nm).length c1] 135)):=by go_grown
 have OO:=Avp (show(w1.alloc (.cells #[.slice A1 (Dl c nm).length c1] 135)).cell? ⟨O,0,none⟩=some (.slice A1 (Dl c nm).length c1) by rw[hO];simp[go_sem])
 have R1:=Avp (Row.mono (Row.low r1 SZ.out) ho)
 have S2:=Avp ((S.out.mono hb1).mono ho)
 replace S:=Avp (S.out.mono hb1)
 have LO:=Avp (show N+4<=O by rw[hO];exact Nat.le_trans SZ.out hb1.size)
 have m0:N<w1.heap.size:=by have:=LO.out;omega
 have m1:N+1<w1.heap.size:=by have:=LO.out;omega
 have m2:N+2<w1.heap.size:=by have:=LO.out;omega
 clear r1 s1 hb1 ho
 clear x0 k0 k1 k2 d0 d1
 have x0:=S.out.x0;have k0:=S.out.k.c0;have k1:=S.out.k.c1;have k2:=S.out.k.c2;have d0:=S.out.d.c0;have d1:=S.out.d.c1
 go_wp2_with fail
 rw[<-hO]
 clear m0 m1 m2
 generalize hw2:w1.alloc (.cells #[.slice A1 (Dl c nm).length c1] 135)=w2 at *
 clear hO hw2
 replace S:=S2
 clear S2
 clear x0 k0 k1 k2 d0 d1
 have F:=Avp (Aq3 d S.out.h S.out.nm HS.out)
 cases h1:Ri c d with
 | false=>
  have e:r=(Bj,2):=by rw[HR.out];unfold Fn;rw[h1];rfl
  subst e
  rw[h1] at F
  clear h1
  refine F.out.mono ?_
  rintro _ w3 ⟨_,rfl,hb3,rfl⟩
  replace S:=Avp (S.out.mono hb3)
  clear hb3 F
  have X:=Avp S.out.b
  have HB:=Avp S.out.le
  have EN:=Avp (show N=w.heap.size from S.out.n0)
  go_wp2_with ((with_reducible refine Ai (N+3) ?_ ?_);(next=>rfl))
  unfold Az
  refine Af (J:=N+3) rfl rfl rfl rfl rfl X.out (show(Tryz.prog.info? 141).map (·.size)=some 3 by kernel_rfl) rfl (by simp[Value.oneCell']) ?_
  intro w9 hx9 hu9
  have X9:=Avp hx9;have U9:=Avp hu9
  clear hx9 hu9
  go_wp2
  refine bodyPost_ret (v:=.tuple #[.agg cartZ,.int .i64 2]) ?_ rfl ?_
  ·exact Ah Tryz.results255 rfl rfl X9.out Tryz.underlying141 rfl (show(Tryz.prog.info? 141).map (·.size)=some 3 by kernel_rfl)
  exact⟨_,rfl,Ae HB.out (U9.out.below (by rw[<-EN.out];omega)),_,rfl,Ed.zero _ _⟩
 | true=>
  rw[h1] at F
  have H1:=Avp h1
  clear h1
  refine F.out.mono ?_
  rintro _ w3 ⟨_,rfl,hb3,rfl⟩
  replace S:=Avp (S.out.mono hb3);replace OO:=Avp (Ad hb3 OO.out);replace R1:=Avp (R1.out.mono hb3)
  clear hb3 F
  have x0:=S.out.x0;have k0:=S.out.k.c0;have k1:=S.out.k.c1;have k2:=S.out.k.c2;have d0:=S.out.d.c0;have d1:=S.out.d.c1
  go_wp2_with fail
  have F:=Avp (S.out.nm.item w3 (Below.refl _ _) nm HNB.out)
  cases h2:Gn nm with
  | false=>
   have e:r=(Bj,2):=by rw[HR.out];unfold Fn;rw[H1.out,h2];rfl
   subst e
   rw[h2] at F
   clear h2
   refine F.out.mono ?_
   rintro _ w4 ⟨_,rfl,hb4,rfl⟩
   replace S:=Avp (S.out.mono hb4)
   clear hb4 F
   clear x0 k0 k1 k2 d0 d1
   have X:=Avp S.out.b
   have HB:=Avp S.out.le
   have EN:=Avp (show N=w.heap.size from S.out.n0)
   go_wp2_with ((with_reducible refine Ai (N+3) ?_ ?_);(next=>rfl))
   unfold Az
   refine Af (J:=N+3) rfl rfl rfl rfl rfl X.out (show(Tryz.prog.info? 141).map (·.size)=some 3 by kernel_rfl) rfl (by simp[Value.oneCell']) ?_
   intro w9 hx9 hu9
   have X9:=Avp hx9;have U9:=Avp hu9
   clear hx9 hu9
   go_wp2
   refine bodyPost_ret (v:=.tuple #[.agg cartZ,.int .i64 2]) ?_ rfl ?_
   ·exact Ah Tryz.results255 rfl rfl X9.out Tryz.underlying141 rfl (show(Tryz.prog.info? 141).map (·.size)=some 3 by kernel_rfl)
   exact⟨_,rfl,Ae HB.out (U9.out.below (by rw[<-EN.out];omega)),_,rfl,Ed.zero _ _⟩
  | true=>
   rw[h2] at F
   have H2:=Avp h2
   clear h2
   refine F.out.mono ?_
   rintro _ w4 ⟨_,rfl,hb4,rfl⟩
   replace S:=Avp (S.out.mono hb4);replace OO:=Avp (Ad hb4 OO.out);replace R1:=Avp (R1.out.mono hb4)
   clear hb4 F
   clear x0 k0 k1 k2 d0 d1
   go_wp2_with fail
   have F:=Avp (La q w4)
   cases h3:Nn q with
   | false=>
    have e:r=(Bj,14):=by rw[HR.out];unfold Fn;rw[H1.out,H2.out,h3];rfl
    subst e
    rw[h3] at F
    clear h3
    refine F.out.mono ?_
    rintro _ w5 ⟨_,rfl,hb5,rfl⟩
    replace S:=Avp (S.out.mono hb5)
    clear hb5 F
    have X:=Avp S.out.b
    have HB:=Avp S.out.le
    have EN:=Avp (show N=w.heap.size from S.out.n0)
    go_wp2_with ((with_reducible refine Ai (N+3) ?_ ?_);(next=>rfl))
    unfold Az
    refine Af (J:=N+3) rfl rfl rfl rfl rfl X.out (show(Tryz.prog.info? 141).map (·.size)=some 3 by kernel_rfl) rfl (by simp[Value.oneCell']) ?_
    intro w9 hx9 hu9
    have X9:=Avp hx9;have U9:=Avp hu9
    clear hx9 hu9
    go_wp2
    refine bodyPost_ret (v:=.tuple #[.agg cartZ,.int .i64 14]) ?_ rfl ?_
    ·exact Ah Tryz.results255 rfl rfl X9.out Tryz.underlying141 rfl (show(Tryz.prog.info? 141).map (·.size)=some 3 by kernel_rfl)
    exact⟨_,rfl,Ae HB.out (U9.out.below (by rw[<-EN.out];omega)),_,rfl,Ed.zero _ _⟩
   | true=>
    rw[h3] at F
    have H3:=Avp h3
    clear h3
    refine F.out.mono ?_
    rintro _ w5 ⟨_,rfl,hb5,rfl⟩
    replace S:=Avp (S.out.mono hb5);replace OO:=Avp (Ad hb5 OO.out);replace R1:=Avp (R1.out.mono hb5)
    clear hb5 F
    go_wp2_with fail
    have F:=Avp (HF.out w5 N O (N+1) _ _ _ _ _ _ S.out.x1 OO.out S.out.k.c2)
    obtain⟨er,her⟩:∃ er,er=chk (decide (0<(Dl c nm).length)) p.k:=⟨_,rfl⟩
    rw[<-her] at F
    have HER:=Avp her
    clear her
    refine F.out.mono ?_
    rintro _ w6 ⟨_,rfl,hb6,rfl⟩
    replace S:=Avp (S.out.mono hb6);replace OO:=Avp (Ad hb6 OO.out);replace R1:=Avp (R1.out.mono hb6)
    clear hb6 F
    by_cases he0:er=0
    ·subst he0
     have HE:=Avp (show chk (decide (0<(Dl c nm).length)) c.items.length=0 by rw[<-KL.out];exact HER.out.symm)
     have x0:=S.out.x0;have k0:=S.out.k.c0;have k1:=S.out.k.c1;have k2:=S.out.k.c2;have d0:=S.out.d.c0;have d1:=S.out.d.c1
     go_wp2_with fail
     have F:=Avp (Apx S.out.h S.out.nm HS.out)
     have TK:=Avp (fun h0=>Aky S.out.h.its.tm h0)
     obtain⟨tk,htk⟩:∃ tk,tk=Ik c:=⟨_,rfl⟩
     rw[<-htk] at F TK
     have HTK:=Avp htk
     clear htk
     refine F.out.mono ?_
     rintro _ w7 ⟨_,rfl,hb7,rfl⟩
     replace S:=Avp (S.out.mono hb7);replace OO:=Avp (Ad hb7 OO.out);replace R1:=Avp (R1.out.mono hb7)
     clear hb7 F
     clear x0 k0 k1 k2 d0 d1
     obtain⟨t,te⟩:=tk
     by_cases ht:te=0
     ·subst ht
      have e:r=(⟨(Ja (Dl c nm++[d])).ctx,[(nm,[⟨d,q,t⟩])]⟩,0):=by rw[HR.out];unfold Fn;rw[H1.out,H2.out,H3.out,HE.out,<-HTK.out];rfl
      subst e
      have LO7:=Avp (show N+4<=w7.heap.size from S.out.b.lt)
      have g0:N+2<w7.heap.size:=by have:=LO7.out;omega
      have oo:=OO.out;have d0:=S.out.d.c0;have d1:=S.out.d.c1
      have ha:Below w7.heap.size w7 (w7.alloc (.cells #[.int .i64 d.1,.int .i64 d.2] 224)):=by go_grown
      have S7:=Avp (S.out.mono ha);have R7:=Avp (R1.out.mono ha)
      have D7:=Avp (Aj8 w7 d 224)
      have L7:=Avp (Aax (nm:=nm) HS.out)
      have SZ7:=Avp (show N+4<=(w7.alloc (.cells #[.int .i64 d.1,.int .i64 d.2] 224)).heap.size from S7.out.b.lt)
      clear ha
      go_wp2_with (at_builtin;refine V9 ?_)
      unfold Az
      refine D4 (B:=N+4) (l:=Dl c nm) (k:=[d]) rfl rfl Tryz.underlying135 rfl rfl R7.out D7.out (by have:=L7.out;simp;omega) SZ7.out ?_
      intro v8 w8 r8 g8
      have hb8:=(Below.refl (N+4) _).grown g8 SZ7.out (fun k hk=>(World.ownsRow.lt R7.out k hk).1)
      have DD:=Avp (S7.out.d.low hb8 (by omega));have XX:=Avp (S7.out.b.low hb8 (by omega))
      have NN:=Avp ((World.cell?_of_block (a:=⟨N,0,none⟩) (hb8.block N (by omega))).trans S7.out.x0)
      have n0:=S7.out.n0
      have HB:=Avp (S7.out.le.trans (hb8.mono (by omega)))
      have EN:=Avp (show N=w.heap.size from n0)
      have F:=Avp (Ai8 r8 (by have h0:=Oh (nm:=nm) HS.out;simp;omega))
      clear oo d0 d1 g0 g8 r8 hb8 n0 S7 R7 D7 SZ7 S OO R1
      go_wp2_with fail
      refine F.out.mono ?_
      rintro _ w10 ⟨_,rfl,hb10,p6,rfl,h6⟩
      obtain⟨J,hJ⟩:∃ J,J=w10.heap.size:=⟨_,rfl⟩
      have zn:N+3<w10.heap.size:=(XX.out.mono hb10).lt
      obtain⟨w13,hw13⟩:∃ w13,w13=((w10.alloc (.cells #[.slice p6.A p6.n p6.ca,.slice p6.B p6.m p6.cb,.slice (some ⟨J+1+1,0,none⟩) 1 1] 141)).alloc (.cells #[.int .i64 d.1,.int .i64 d.2,.int .i64 q,.int .u64 (t:Int)] 249)).alloc (.cells #[Ac nm,.slice (some ⟨J+1,0,none⟩) 1 1] 246):=⟨_,rfl⟩
      have hb13:Below w10.heap.size w10 w13:=by rw[hw13];go_grown
      have SM:=Avp (show Sl encM w13 (some ⟨J+1,0,none⟩) 1 1 [⟨d,q,t⟩] by
       have:=Sl.new encM (w10.alloc (.cells #[.slice p6.A p6.n p6.ca,.slice p6.B p6.m p6.cb,.slice (some ⟨J+1+1,0,none⟩) 1 1] 141)) [⟨d,q,t⟩] (by simp) (Fj ⟨d,q,t⟩) rfl 249
       rw[World.size_alloc,<-hJ] at this
       rw[hw13];exact this.mono (by go_grown))
      have SI:=Avp (show Sl encIt w13 (some ⟨J+1+1,0,none⟩) 1 1 [⟨nm,[⟨d,q,t⟩],some ⟨J+1,0,none⟩,1,1⟩] by
       have:=Sl.new encIt ((w10.alloc (.cells #[.slice p6.A p6.n p6.ca,.slice p6.B p6.m p6.cb,.slice (some ⟨J+1+1,0,none⟩) 1 1] 141)).alloc (.cells #[.int .i64 d.1,.int .i64 d.2,.int .i64 q,.int .u64 (t:Int)] 249)) [(⟨nm,[⟨d,q,t⟩],some ⟨J+1,0,none⟩,1,1⟩:ItE)] (by simp) #[Ac nm,.slice (some ⟨J+1,0,none⟩) 1 1] rfl 246
       rw[World.size_alloc,World.size_alloc,<-hJ] at this
       rw[hw13];exact this)
      have C6:=Avp (h6.mono hb13 fun _ x=>x)
      have LJ:=Avp (show w8.heap.size<=J by rw[hJ];exact hb10.size)
      have HJ:=Avp hJ;have HW13:=Avp hw13
      have XX9:=Avp ((XX.out.mono hb10).mono hb13);have HB9:=Avp ((HB.out.le hb10).le hb13)
      have NX:=Avp (show N+4<=w8.heap.size from XX.out.lt)
      have d0:=(DD.out.mono hb10).c0;have d1:=(DD.out.mono hb10).c1;have x0:=Ad hb10 NN.out
      have z0:N<w10.heap.size:=by omega
      have z2:N+2<w10.heap.size:=by omega
      clear hb10 h6 hb13 hw13 F zn XX HB NN DD hJ
      go_wp2_with ((with_reducible refine Ai (N+3) ?_ ?_);(next=>rfl))
      unfold Az
      rw[<-HJ.out,<-HW13.out]
      clear d0 d1 x0 z0 z2
      refine Af (J:=N+3) rfl rfl rfl rfl rfl XX9.out (show(Tryz.prog.info? 141).map (·.size)=some 3 by kernel_rfl) rfl (by simp[Value.oneCell']) ?_
      intro w9 hx9 hu9
      have X9:=Avp hx9;have U9:=Avp hu9
      clear hx9 hu9
      go_wp2
      refine bodyPost_ret (v:=.tuple #[Cd ⟨p6.A,p6.n,p6.ca,p6.B,p6.m,p6.cb,some ⟨J+1+1,0,none⟩,1,1⟩,.int .i64 0]) ?_ rfl ?_
      ·exact Ah Tryz.results255 rfl rfl X9.out Tryz.underlying141 rfl (show(Tryz.prog.info? 141).map (·.size)=some 3 by kernel_rfl)
      have lj:=LJ.out
      have nx:=NX.out
      have en:=EN.out
      have hj:=HJ.out
      refine⟨_,rfl,Ae HB9.out (U9.out.below (by omega)),_,rfl,⟨p6.A,p6.n,p6.ca,p6.B,p6.m,p6.cb,some ⟨J+1+1,0,none⟩,1,1⟩,rfl,?_⟩
      have hDN:¬(w8.heap.size<=N+3∧N+3<w10.heap.size):=by omega
      have hlow:∀ b,(w8.heap.size<=b∧b<w10.heap.size)->w.heap.size<=b:=fun b hb=>by omega
      have cA:=C6.out.upd U9.out hDN
      refine⟨cA.vec,cA.cloud,⟨[⟨nm,[⟨d,q,t⟩],some ⟨J+1,0,none⟩,1,1⟩],rfl,?_,?_,?_⟩,cA.iA.mono hlow,cA.iB.mono hlow⟩
      ·exact SI.out.wrote U9.out.wrote (fun a e=>by cases e;simp only;omega)
      ·intro a e;cases e;show w.heap.size<=J+1+1;omega
      ·intro x hx
       rw[List.mem_singleton.1 hx]
       exact⟨SM.out.wrote U9.out.wrote (fun a e=>by cases e;simp only;omega),fun a e=>(by cases e;show w.heap.size<=J+1;omega),⟨fun m hm=>(by rw[List.mem_singleton.1 hm];exact TK.out trivial),HNB.out⟩⟩
     ·have e:r=(Bj,te):=by rw[HR.out];unfold Fn;rw[H1.out,H2.out,H3.out,HE.out,<-HTK.out];simp[ht]
      subst e
      have X:=Avp S.out.b
      have HB:=Avp S.out.le
      have EN:=Avp (show N=w.heap.size from S.out.n0)
      go_wp2_with ((with_reducible refine Ai (N+3) ?_ ?_);(next=>rfl))
      unfold Az
      refine Af (J:=N+3) rfl rfl rfl rfl rfl X.out (show(Tryz.prog.info? 141).map (·.size)=some 3 by kernel_rfl) rfl (by simp[Value.oneCell']) ?_
      intro w9 hx9 hu9
      have X9:=Avp hx9;have U9:=Avp hu9
      clear hx9 hu9
      go_wp2
      refine bodyPost_ret (v:=.tuple #[.agg cartZ,.int .i64 te]) ?_ rfl ?_
      ·exact Ah Tryz.results255 rfl rfl X9.out Tryz.underlying141 rfl (show(Tryz.prog.info? 141).map (·.size)=some 3 by kernel_rfl)
      exact⟨_,rfl,Ae HB.out (U9.out.below (by rw[<-EN.out];omega)),_,rfl,Ed.zero _ _⟩
    ·have e:r=(Bj,er):=by
      have h4:chk (decide (0<(Dl c nm).length)) c.items.length=er:=by rw[<-KL.out];exact HER.out.symm
      rw[HR.out];unfold Fn;rw[H1.out,H2.out,H3.out,h4];simp[he0]
     subst e
     go_wp2_with fail
     have F:=Avp (HF.out w6 N O (N+1) _ _ _ _ _ _ S.out.x1 OO.out S.out.k.c2)
     rw[<-HER.out] at F
     refine F.out.mono ?_
     rintro _ w7 ⟨_,rfl,hb7,rfl⟩
     replace S:=Avp (S.out.mono hb7)
     clear hb7 F
     have X:=Avp S.out.b
     have HB:=Avp S.out.le
     have EN:=Avp (show N=w.heap.size from S.out.n0)
     go_wp2_with ((with_reducible refine Ai (N+3) ?_ ?_);(next=>rfl))
     unfold Az
     refine Af (J:=N+3) rfl rfl rfl rfl rfl X.out (show(Tryz.prog.info? 141).map (·.size)=some 3 by kernel_rfl) rfl (by simp[Value.oneCell']) ?_
     intro w9 hx9 hu9
     have X9:=Avp hx9;have U9:=Avp hu9
     clear hx9 hu9
     go_wp2
     refine bodyPost_ret (v:=.tuple #[.agg cartZ,.int .i64 er]) ?_ rfl ?_
     ·exact Ah Tryz.results255 rfl rfl X9.out Tryz.underlying141 rfl (show(Tryz.prog.info? 141).map (·.size)=some 3 by kernel_rfl)
     exact⟨_,rfl,Ae HB.out (U9.out.below (by rw[<-EN.out];omega)),_,rfl,Ed.zero _ _⟩
theorem Auv {D:Nat->Prop} {w:World} {p:CPl} {c:Ar} {d:Dot} {nm:List UInt8} {q:Int} (h:Bg D w p c) (hn:Bk w) (hs:Bd c) (hnb:nm.length<=1000000) :
  Calls Tryz.prog 188 #[Cd p,Akg d,Ac nm,.int .i64 q] w (Ret w (Dw (Ed w.heap.size (Fn Nt c d nm q).1) (Fn Nt c d nm q).2)):=by
 obtain⟨N,hN⟩:∃ N,N=w.heap.size:=⟨_,rfl⟩
 have EN:=Avp hN
 obtain⟨w3,hw3⟩:∃ w3,w3=((w.alloc (.cells (Aw p) 141)).alloc (.cells (So d) 224)).alloc (.cells cartZ 141):=⟨_,rfl⟩
 have hb:Below w.heap.size w w3:=by rw[hw3];go_grown
 have k1:KAt w3 N p:=by rw[hw3,hN];exact((KAt.new w p).mono (by go_grown))
 have d1:DAt w3 (N+1) d:=by rw[hw3,hN];have:=DAt.new (w.alloc (.cells (Aw p) 141)) d;rw[World.size_alloc] at this;exact this.mono (by go_grown)
 have x3:Bx w3 (N+2) cartZ.toList:=by
  rw[hw3,hN];have:=Bx.new ((w.alloc (.cells (Aw p) 141)).alloc (.cells (So d) 224)) cartZ 141
  rw[World.size_alloc,World.size_alloc] at this;exact this
 have HB:=Avp hb;have X:=Avp x3;have HW3:=Avp hw3
 have F:=Avp (Ar0 Ark (d:=d) (nm:=nm) (q:=q) (h.mono hb fun _ x=>x) (hn.mono hb) hs hnb)
 generalize Fn Nt c d nm q=r at *
 obtain⟨c9,e9⟩:=r
 have k0:=k1.c0;have k2:=k1.c1;have k3:=k1.c2;have d0:=d1.c0;have d2:=d1.c1
 have LB:=Avp (show N+3<=w3.heap.size from x3.lt)
 clear hb x3 hw3 h hn hs hnb k1 d1
 go_enter Tryz.func188,Tryz.ntmps188
 go_wp2_with fail
 rw[<-hN,<-HW3.out]
 clear hN HW3
 go_wp2_with fail
 refine F.out.mono ?_
 rintro _ w4 ⟨_,rfl,hb4,_,rfl,p4,rfl,h4⟩
 replace HB:=Avp (HB.out.le hb4);replace X:=Avp (X.out.mono hb4)
 have C4:=Avp h4
 clear hb4 h4 F k0 k2 k3 d0 d2
 go_wp2_with ((with_reducible refine Ai (N+2) ?_ ?_);(next=>rfl))
 unfold Az
 refine Af (J:=N+2) rfl rfl rfl rfl rfl X.out (show(Tryz.prog.info? 141).map (·.size)=some 3 by kernel_rfl) rfl (by simp[Value.oneCell']) ?_
 intro w9 hx9 hu9
 have X9:=Avp hx9;have U9:=Avp hu9
 clear hx9 hu9
 go_wp2
 refine bodyPost_ret (v:=.tuple #[Cd p4,.int .i64 e9]) ?_ rfl ?_
 ·exact Ah Tryz.results188 rfl rfl X9.out Tryz.underlying141 rfl (show(Tryz.prog.info? 141).map (·.size)=some 3 by kernel_rfl)
 have lb:=LB.out
 have en:=EN.out
 exact⟨_,rfl,Ae HB.out (U9.out.below (by omega)),_,rfl,p4,rfl,C4.out.retN U9.out (by omega) (by omega)⟩
def Ah3:Enc Int:=⟨1,fun x=>[.int .i64 x],fun _=>rfl,fun x u hu=>by rw[List.mem_singleton.1 hu];rfl⟩
theorem Avn:Inf Tryz.prog 3 Ah3 8:=by
 obtain⟨i,h1,h2,h3,h4⟩:=info_parts (P:=Tryz.prog) (show(Tryz.prog.info? 3).map (fun i=>(i.zero,i.size,i.bytes))=some (some (.int .i64 0),1,8) by kernel_rfl)
 exact⟨⟨i,_,h1,h2,h3,h4,rfl⟩,by decide,by decide⟩
def M2 (s:Int):List Int->Int×Int
 | []=>(s,0)
 | x::t=>if Nn x then (if Nn (s+x) then M2 (s+x) t else (0,14)) else (0,14)
def Rd (l:List Int):Int×Int:=if l=[] then (0,9) else M2 0 l
def Am2 (w:World) (n:Nat) (l:List Int) (s i:Value) (wr:World):Prop:=∃ (k:Nat) (a:Int),i = .int .i64 k∧s = .int .i64 a∧0<=a∧a<=2147483647∧k<=n∧Below w.heap.size w wr∧M2 0 l=M2 a (l.drop k)
theorem Yd {x:Int}:Nn x=true↔1<=x∧x<=2147483647:=by unfold Nn;rw[Bool.and_eq_true,decide_eq_true_iff,decide_eq_true_iff]
theorem Asj {A:Option Addr} {n c:Nat} {l:List Int} {w:World} (h:Sl Ah3 w A n c l):Calls Tryz.prog 253 #[.slice A n c] w (Ret w (Is (.tuple #[.int .i64 (Rd l).1,.int .i64 (Rd l).2]))):=by
 have hn:=h.big
 have H:=Avp h
 obtain⟨r,hr⟩:∃ r,r=Rd l:=⟨_,rfl⟩
 rw[<-hr]
 have HR:=Avp hr
 clear h hr
 go_enter Tryz.func253,Tryz.ntmps253
 go_wp2
 go_loopw [4,9] (fun s i wr=>Am2 w n l s i wr) (fun _ i _=>n - (intOf i).toNat)
 case atStart=>exact⟨0,0,rfl,rfl,by omega,by omega,Nat.zero_le _,Below.refl _ _,by rw[List.drop_zero]⟩
 case round=>
  obtain⟨k,a,rfl,rfl,ha0,ha1,hk,hb,hs⟩:=hrel
  have HS:=Avp hs;have HB:=Avp hb
  clear hs hb
  by_cases hlt:k<n
  ·obtain⟨b,o,x,hA,hbk,hm,hd,cs⟩:=(H.out.mono HB.out).at_ (i:=k) hlt
   have c0:wr.cell? ⟨b,o+k,none⟩=some (.int .i64 x):=by have:=cs 0 _ rfl;simpa [Ah3] using this
   have hix:=(show(Instr.indexAt 52 (.slice A n c) (.int .i64 (k:Int))).run Tryz.prog wr = .ok (.pointer (some ⟨b,o+k,none⟩)) wr by rw[hA];simp[go_sem,hlt])
   have D1:=Avp hd;have LT:=Avp hlt
   have hne:l≠[]:=by rintro rfl;simp at hm
   have NE:=Avp hne
   clear hd hm hA cs hne
   cases hq:Nn x with
   | false=>
    have F:=Avp (La x wr)
    rw[hq] at F
    have e:r=(0,14):=by rw[HR.out];unfold Rd;rw[if_neg NE.out,HS.out,D1.out];unfold M2;rw[hq];rfl
    subst e
    clear hq
    go_wp2_with fail
    refine F.out.mono ?_
    rintro _ w1 ⟨_,rfl,hb1,rfl⟩
    have HB1:=Avp (HB.out.le hb1)
    clear hb1 F c0 hix
    go_wp2
    refine bodyPost_ret (v:=.tuple #[.int .i64 0,.int .i64 14]) (by simp[results,Tryz.results253,go_sem]) rfl ?_
    exact⟨_,rfl,HB1.out,rfl⟩
   | true=>
    have F:=Avp (La x wr)
    rw[hq] at F
    have hx:=Yd.1 hq
    obtain⟨hx0,hx1⟩:=hx
    cases hq2:Nn (a+x) with
    | false=>
     have e:r=(0,14):=by rw[HR.out];unfold Rd;rw[if_neg NE.out,HS.out,D1.out];unfold M2;rw[hq,hq2];rfl
     subst e
     have HQ2:=Avp hq2
     clear hq hq2
     go_wp2_with fail
     refine F.out.mono ?_
     rintro _ w1 ⟨_,rfl,hb1,rfl⟩
     have HB1:=Avp (HB.out.le hb1)
     have F2:=Avp (La (a+x) w1)
     rw[HQ2.out] at F2
     clear hb1 F c0 hix
     go_wp2_with fail
     refine F2.out.mono ?_
     rintro _ w2 ⟨_,rfl,hb2,rfl⟩
     have HB2:=Avp (HB1.out.le hb2)
     clear hb2 F2
     go_wp2
     refine bodyPost_ret (v:=.tuple #[.int .i64 0,.int .i64 14]) (by simp[results,Tryz.results253,go_sem]) rfl ?_
     exact⟨_,rfl,HB2.out,rfl⟩
    | true=>
     have HG:=Avp (show M2 a (l.drop k)=M2 (a+x) (l.drop (k+1)) by rw[D1.out];rw[M2,hq,hq2];rfl)
     have HQ2:=Avp hq2
     have hax:=Yd.1 hq2
     obtain⟨ax0,ax1⟩:=hax
     have AX:=Avp (And.intro ax0 ax1)
     clear hq hq2
     go_wp2_with fail
     refine F.out.mono ?_
     rintro _ w1 ⟨_,rfl,hb1,rfl⟩
     have HB1:=Avp (HB.out.le hb1)
     have F2:=Avp (La (a+x) w1)
     rw[HQ2.out] at F2
     clear hb1 F c0 hix
     go_wp2_with fail
     refine F2.out.mono ?_
     rintro _ w2 ⟨_,rfl,hb2,rfl⟩
     have HB2:=Avp (HB1.out.le hb2)
     clear hb2 F2
     go_wp2
     go_roundw
     case rel=>exact⟨k+1,a+x,by simp,rfl,by have:=AX.out.1;omega,AX.out.2,LT.out,HB2.out,by rw[HS.out,HG.out]⟩
     case measure=>simp[intOf];have:=LT.out;omega
  ·obtain rfl:k=n:=by omega
   have hd:l.drop k=[]:=List.drop_eq_nil_of_le (by rw[<-H.out.len];exact Nat.le_refl _)
   by_cases h0:k=0
   ·have e:r=(0,9):=by rw[HR.out];unfold Rd;rw[if_pos (List.eq_nil_of_length_eq_zero (by rw[<-H.out.len];exact h0))]
    subst e h0
    clear hd
    go_wp2
    refine bodyPost_ret (v:=.tuple #[.int .i64 0,.int .i64 9]) (by simp[results,Tryz.results253,go_sem]) rfl ?_
    exact⟨_,rfl,HB.out,rfl⟩
   ·have e:r=(a,0):=by rw[HR.out];unfold Rd;rw[if_neg (fun e=>h0 (by rw[H.out.len,e];rfl)),HS.out,hd];rfl
    subst e
    have hk0:((k:Int)==0)=false:=by rw[beq_eq_false_iff_ne];omega
    clear hd
    go_wp2
    refine bodyPost_ret (v:=.tuple #[.int .i64 a,.int .i64 0]) (by simp[results,Tryz.results253,go_sem]) rfl ?_
    exact⟨_,rfl,HB.out,rfl⟩
def U0 (c:Ar) (nm:List UInt8) (q:Int):Int×Int:=
 if Bo c&&Gn nm then (if (Qw c nm).2=0 then Rd [q,(Qw c nm).1] else Rd [q]) else (0,2)
theorem Ath {D:Nat->Prop} {w:World} {p:CPl} {c:Ar} {nm:List UInt8} {q:Int} (h:Bg D w p c) (hn:Bk w) (hs:Bd c) (hnb:nm.length<=1000000) :
  Calls Tryz.prog 187 #[Cd p,Ac nm,.int .i64 q] w (Ret w (Is (.tuple #[.int .i64 (U0 c nm q).1,.int .i64 (U0 c nm q).2]))):=by
 have HNB:=Avp hnb
 clear hnb
 obtain⟨N,hN⟩:∃ N,N=w.heap.size:=⟨_,rfl⟩
 have EN:=Avp hN
 obtain⟨w3,hw3⟩:∃ w3,w3=w.alloc (.cells (Aw p) 141):=⟨_,rfl⟩
 have hb:Below w.heap.size w w3:=by rw[hw3];go_grown
 have k1:KAt w3 N p:=by rw[hw3,hN];exact KAt.new w p
 have HB:=Avp hb;have K1:=Avp k1;have H:=Avp (h.mono hb fun _ x=>x);have NM:=Avp (hn.mono hb);have HS:=Avp hs;have HW3:=Avp hw3
 clear hb k1 h hn hs hw3
 obtain⟨r,hr⟩:∃ r,r=U0 c nm q:=⟨_,rfl⟩
 rw[<-hr]
 have HR:=Avp hr
 clear hr
 have k0:=K1.out.c0;have k1:=K1.out.c1;have k2:=K1.out.c2
 go_enter Tryz.func187,Tryz.ntmps187
 go_wp2_with fail
 rw[<-hN,<-HW3.out]
 clear hN HW3
 go_wp2_with fail
 have F:=Avp (Eo H.out NM.out HS.out)
 cases h1:Bo c with
 | false=>
  have e:r=(0,2):=by rw[HR.out];unfold U0;rw[h1];rfl
  subst e
  rw[h1] at F
  clear h1
  refine F.out.mono ?_
  rintro _ w4 ⟨_,rfl,hb4,rfl⟩
  replace K1:=Avp (K1.out.mono hb4);replace HB:=Avp (HB.out.le hb4);replace NM:=Avp (NM.out.mono hb4)
  replace H:=Avp (H.out.mono hb4 fun _ x=>x)
  clear hb4 k0 k1 k2 F
  go_wp2
  refine bodyPost_ret (v:=.tuple #[.int .i64 0,.int .i64 2]) (by simp[results,Tryz.results187,go_sem]) rfl ?_
  exact⟨_,rfl,HB.out,rfl⟩
 | true=>
  rw[h1] at F
  have H1:=Avp h1
  clear h1
  refine F.out.mono ?_
  rintro _ w4 ⟨_,rfl,hb4,rfl⟩
  replace K1:=Avp (K1.out.mono hb4);replace HB:=Avp (HB.out.le hb4);replace NM:=Avp (NM.out.mono hb4)
  replace H:=Avp (H.out.mono hb4 fun _ x=>x)
  clear hb4 k0 k1 k2 F
  go_wp2_with fail
  have F:=Avp (NM.out.item w4 (Below.refl _ _) nm HNB.out)
  cases h2:Gn nm with
  | false=>
   have e:r=(0,2):=by rw[HR.out];unfold U0;rw[H1.out,h2];rfl
   subst e
   rw[h2] at F
   clear h2
   refine F.out.mono ?_
   rintro _ w5 ⟨_,rfl,hb5,rfl⟩
   replace K1:=Avp (K1.out.mono hb5);replace HB:=Avp (HB.out.le hb5);replace NM:=Avp (NM.out.mono hb5)
   replace H:=Avp (H.out.mono hb5 fun _ x=>x)
   clear hb5 F
   go_wp2
   refine bodyPost_ret (v:=.tuple #[.int .i64 0,.int .i64 2]) (by simp[results,Tryz.results187,go_sem]) rfl ?_
   exact⟨_,rfl,HB.out,rfl⟩
  | true=>
   rw[h2] at F
   have H2:=Avp h2
   clear h2
   refine F.out.mono ?_
   rintro _ w5 ⟨_,rfl,hb5,rfl⟩
   replace K1:=Avp (K1.out.mono hb5);replace HB:=Avp (HB.out.le hb5);replace NM:=Avp (NM.out.mono hb5)
   replace H:=Avp (H.out.mono hb5 fun _ x=>x)
   clear hb5 F
   have ha:Below w5.heap.size w5 (w5.alloc (.cells #[.int .i64 q] 3)):=by go_grown
   have OW:=Avp (Ag.oneNew Ah3 w5 q #[.int .i64 q] rfl 3 (by decide))
   have k0:=K1.out.c0;have k1:=K1.out.c1;have k2:=K1.out.c2
   have z0:N<w5.heap.size:=World.block_lt_of_cell? w5 _ k0
   have ML:=Avp (show w.heap.size<=w5.heap.size from HB.out.size)
   replace K1:=Avp (K1.out.mono ha);replace HB:=Avp (HB.out.le ha);replace NM:=Avp (NM.out.mono ha)
   replace H:=Avp (H.out.mono ha fun _ x=>x)
   have F:=Avp (Amt (nm:=nm) H.out NM.out HS.out)
   obtain⟨qk,hqk⟩:∃ qk,qk=Qw c nm:=⟨_,rfl⟩
   rw[<-hqk] at F
   have HQ:=Avp hqk
   clear ha hqk
   obtain⟨x,er⟩:=qk
   go_wp2_with fail
   obtain⟨M,hM⟩:∃ M,M=w5.heap.size:=⟨_,rfl⟩
   rw[<-hM]
   generalize hw6:w5.alloc (.cells #[.int .i64 q] 3)=w6 at *
   rw[<-hM] at OW ML
   clear hw6
   refine F.out.mono ?_
   rintro _ w7 ⟨_,rfl,hb7,rfl⟩
   replace K1:=Avp (K1.out.mono hb7);replace HB:=Avp (HB.out.le hb7);replace NM:=Avp (NM.out.mono hb7)
   replace H:=Avp (H.out.mono hb7 fun _ x=>x)
   replace OW:=Avp (OW.out.mono hb7)
   clear hb7 F k0 k1 k2 z0 hM
   by_cases he:er=0
   ·subst he
    have ha:Below w7.heap.size w7 (w7.alloc (.cells #[.int .i64 x] 3)):=by go_grown
    have D1:=Avp (Sl.new Ah3 w7 [x] (by simp) #[.int .i64 x] rfl 3)
    have O1:=Avp (OW.out.mono ha)
    have hM7:M<=(w7.alloc (.cells #[.int .i64 x] 3)).heap.size:=Nat.le_of_lt (O1.out.own M rfl).2
    have HM7:=Avp hM7
    have HBa:=Avp (HB.out.le ha)
    have HE:=Avp (show r=Rd ([q]++[x]) by rw[HR.out];unfold U0;rw[H1.out,H2.out,<-HQ.out];rfl)
    clear ha hM7
    go_wp2_with (at_builtin;refine V9 ?_)
    unfold Az
    refine Aj (B:=M) (l:=[q]) (k:=[x]) Avn rfl rfl Tryz.underlying52 rfl rfl O1.out D1.out (by simp) HM7.out ?_
    intro v8 w8 o8 g8 _
    have HB8:=Avp (HBa.out.grown g8 HBa.out.size (fun k hk=>Nat.le_trans ML.out (O1.out.own k hk).1))
    obtain⟨A8,c8,rfl,s8⟩:=Ag.sl o8
    have F:=Avp (Asj s8)
    rw[<-HE.out] at F
    clear o8 g8 s8
    go_wp2_with fail
    refine F.out.mono ?_
    rintro _ w9 ⟨_,rfl,hb9,rfl⟩
    have HB9:=Avp (HB8.out.le hb9)
    clear hb9 F
    go_wp2
    refine bodyPost_ret (v:=.tuple #[.int .i64 r.1,.int .i64 r.2]) (by simp[results,Tryz.results187,go_sem]) rfl ?_
    exact⟨_,rfl,HB9.out,rfl⟩
   ·have HE:=Avp (show r=Rd [q] by rw[HR.out];unfold U0;rw[H1.out,H2.out,<-HQ.out];simp[he])
    obtain⟨A8,c8,e8,s8⟩:=Ag.sl OW.out
    cases e8
    have F:=Avp (Asj s8)
    rw[<-HE.out] at F
    clear s8
    go_wp2_with fail
    refine F.out.mono ?_
    rintro _ w9 ⟨_,rfl,hb9,rfl⟩
    have HB9:=Avp (HB.out.le hb9)
    clear hb9 F
    go_wp2
    refine bodyPost_ret (v:=.tuple #[.int .i64 r.1,.int .i64 r.2]) (by simp[results,Tryz.results187,go_sem]) rfl ?_
    exact⟨_,rfl,HB9.out,rfl⟩
end Go.Proofs.YthnbhjpahlceeaaGreatDoor
namespace Go.Proofs
open Go.Shelf
def Tryz.idxbL_ren:Go.Shelf.Ren:=⟨fun | 137=>369 | 217=>419 | 266=>451 | n=>n,fun | 9=>9 | 5=>5 | 3=>3 | n=>n,fun | n=>n⟩
theorem Tryz.idxbL:Go.Proofs.Lays.n137 Tryz.prog Tryz.idxbL_ren:={
 mixed:=by kernel_rfl
 f137:=Tryz.func369.trans (congrArg some (by kernel_rfl))
 f217:=Tryz.func419.trans (congrArg some (by kernel_rfl))
 f266:=Tryz.func451.trans (congrArg some (by kernel_rfl))
 t3:=Tryz.underlying3
 a3:=Tryz.isAgg3
 z3:=Tryz.sizeOf3
 v3:=Tryz.zeroValue3
 t5:=Tryz.underlying5
 a5:=Tryz.isAgg5
 z5:=Tryz.sizeOf5
 v5:=Tryz.zeroValue5
 t9:=Tryz.underlying9
 a9:=Tryz.isAgg9
 z9:=Tryz.sizeOf9
 v9:=Tryz.zeroValue9 }
end Go.Proofs
namespace Go.Proofs.YthnbhjpahlceeaaGreatDoor
open Go.RowKit Go.Shelf
def Lc:List UInt8:=[45,95,46,47]
theorem Ads (s:List UInt8) (k:Nat) (c:UInt8) (h:s[k]?=some c) (w:World):(Instr.index 9 (Ac s) (.int .i64 (k:Int))).run Tryz.prog w = .ok (.int .u8 c.toNat) w:=by
 obtain⟨hk,he⟩:=List.getElem?_eq_some_iff.1 h
 have h1:(k:Int)<(s.length:Int):=by omega
 have h2:∀ h:k<(ByteArray.mk ⟨s⟩).size,(ByteArray.mk ⟨s⟩)[k]=c:=fun h=>by
  show(⟨s⟩:Array UInt8)[k]'(by simpa using hk)=c
  simpa using he
 simp[go_sem,h1,h2]
theorem Akx (r:Nat) (h1:128<=r) (h2:r<256):∃ a b:UInt8,Utf8.encode (r:Int)=⟨⟨[a,b]⟩⟩∧128<=b.toNat:=by
 have hv:Utf8.valid (r:Int)=true:=by unfold Utf8.valid;simp;omega
 refine⟨UInt8.ofNat (192+r / 64),UInt8.ofNat (128+r % 64),?_,?_⟩
 ·unfold Utf8.encode
  simp only[hv,if_true,Int.toNat_natCast]
  rw[if_neg (by omega),if_pos (by omega)]
 ·rw[UInt8.toNat_ofNat'];omega
theorem Ae7 {r:Nat} {a b:UInt8} (h:Utf8.encode (r:Int)=⟨⟨[a,b]⟩⟩) (w:World):(convert 21 9 (.int .i32 (r:Int))).run Tryz.prog w = .ok (Ac [a,b]) w:=by
 simp[convert,run_underlying Tryz.underlying21,run_underlying Tryz.underlying9,Conv.intToString,h]
theorem Abc (b:UInt8) (h:128<=b.toNat):Lib.indexByte [46,47] b = -1:=by
 have e1:((46:UInt8)==b)=false:=by rw[beq_eq_false_iff_ne];rintro rfl;exact absurd h (by decide)
 have e2:((47:UInt8)==b)=false:=by rw[beq_eq_false_iff_ne];rintro rfl;exact absurd h (by decide)
 simp[Lib.indexByte,e1,e2]
theorem Aa6 (r:Nat) (h2:r<256) (w:World):Calls Tryz.prog 370 #[.int .i32 (r:Int)] w fun e w'=>e = .returned (.bool true)∧w'=w:=by
 have d1:(0:Int)<=(r:Int):=by omega
 have d2:(r:Int)<55296:=by omega
 clear h2
 go_enter Tryz.func370,Tryz.ntmps370
 go_wp2
 go_ret
 exact⟨rfl,rfl⟩
theorem Atf (b:UInt8) (w:World):Calls Tryz.prog 369 #[Ac [46,47],.int .u8 (b.toNat:Int)] w fun e w'=>e = .returned (.int .i64 (Lib.indexByte [46,47] b))∧w'=w:=by
 have h:=Any.strings_IndexByte Tryz.idxbL ⟨⟨[46,47]⟩⟩ (b.toNat:Int) w
 have e:((b.toNat:Int).toNat.toUInt8)=b:=by simp
 rw[e] at h
 exact h
theorem Ae4 (w:World):(Instr.sliceAt 9 (Ac Lc) (some (.int .i64 2)) none none).run Tryz.prog w = .ok (Ac [46,47]) w:=by
 simp[go_sem,Lc];rfl
theorem U1 (r:Nat) (h1:128<=r) (h2:r<256) (w:World):Calls Tryz.prog 288 #[Ac Lc,.int .i32 (r:Int)] w (Ret w (IsI (-1))):=by
 obtain⟨a,b,he,hb⟩:=Akx r h1 h2
 have V:=Avp (fun w=>Aa6 r h2 w)
 have I:=Avp (fun w=>Atf b w)
 rw[Abc b hb] at I
 have d1:(0:Int)<=(r:Int):=by omega
 have d2:¬(r:Int)<128:=by omega
 have d3:((r:Int)==65533)=false:=by rw[beq_eq_false_iff_ne];omega
 have d4:((95:Int) != (b.toNat:Int))=true:=by simp;omega
 have d5:((95:Int)==(b.toNat:Int))=false:=by rw[beq_eq_false_iff_ne];omega
 have d6:¬(95:Int)=(b.toNat:Int):=by omega
 have d7:¬95=b.toNat:=by omega
 have d8:(95==b.toNat)=false:=by rw[beq_eq_false_iff_ne];omega
 have hcut:=Ae4
 have hcv:=fun w=>Ae7 he w
 clear he
 have hix1:∀ w,(Instr.index 9 (Ac Lc) (.int .i64 1)).run Tryz.prog w = .ok (.int .u8 95) w:=fun w=>Ads Lc 1 95 rfl w
 have hix2:∀ w,(Instr.index 9 (Ac [a,b]) (.int .i64 1)).run Tryz.prog w = .ok (.int .u8 (b.toNat:Int)) w:=fun w=>Ads [a,b] 1 b rfl w
 clear h1 h2 hb
 go_enter Tryz.func288,Tryz.ntmps288
 go_wp2_with (go_at_call 370;(with_reducible refine(V.out _).mono ?_);rintro _ w2 ⟨rfl,rfl⟩)
 go_step3
 go_wp2
 refine wp_loop_rounds 1 ?_
 rw[rounds_succ]
 go_wp2
 apply wp_scope_straight
 go_wp2
 go_quiet (fail)
 have B3:=Avp (show Below w2.heap.size w2 (w2.drewN nq) from(Below.refl _ _).drewN' _)
 generalize w2.drewN nq=w3 at *
 go_wp2
 go_quiet ((go_at_call 369;go_must (refine Calls.quiet_of_same (I.out _))))
 go_wp2
 go_ret
 exact⟨_,rfl,B3.out.drewN' _,rfl⟩
theorem Agh (r:Nat) (h1:128<=r) (h2:r<256) (w:World):Calls Tryz.prog 215 #[Ac Lc,.int .i32 (r:Int)] w (Ret w (IsB false)):=by
 have F:=Avp (fun w1=>U1 r h1 h2 w1)
 clear h1 h2
 go_enter Tryz.func215,Tryz.ntmps215
 go_wp2_with fail
 refine(F.out _).mono ?_
 rintro _ w1 ⟨_,rfl,hb1,rfl⟩
 have B1:=Avp hb1
 clear hb1 F
 go_wp2
 go_ret
 exact Ay rfl B1.out
end Go.Proofs.YthnbhjpahlceeaaGreatDoor
namespace Go.Proofs.YthnbhjpahlceeaaGreatDoor
open Go.RowKit
def Iy (c:UInt8):Bool:=c==45||(c==95||(c==46||c==47))
theorem Agl (c:UInt8):decide (0<=Lib.indexByte Lc c)=Iy c:=by
 by_cases h1:c=45
 ·subst h1;decide
 by_cases h2:c=95
 ·subst h2;decide
 by_cases h3:c=46
 ·subst h3;decide
 by_cases h4:c=47
 ·subst h4;decide
 have e1:((45:UInt8)==c)=false:=by rw[beq_eq_false_iff_ne];exact fun e=>h1 e.symm
 have e2:((95:UInt8)==c)=false:=by rw[beq_eq_false_iff_ne];exact fun e=>h2 e.symm
 have e3:((46:UInt8)==c)=false:=by rw[beq_eq_false_iff_ne];exact fun e=>h3 e.symm
 have e4:((47:UInt8)==c)=false:=by rw[beq_eq_false_iff_ne];exact fun e=>h4 e.symm
 unfold Iy Lc
 simp[Lib.indexByte,e1,e2,e3,e4,h1,h2,h3,h4]
theorem Aes (c:UInt8) (w:World):Calls Tryz.prog 215 #[Ac Lc,.int .i32 (c.toNat:Int)] w (Ret w (IsB (Iy c))):=by
 by_cases h:c.toNat<128
 ·have h1:=Any.strings_ContainsRune_ascii Tryz.runeL ⟨⟨Lc⟩⟩ (c.toNat:Int) w (by omega) (by omega)
  have e:((c.toNat:Int).toNat.toUInt8)=c:=by simp
  rw[e] at h1
  refine h1.mono ?_
  rintro _ _ ⟨rfl,rfl⟩
  exact⟨_,rfl,Below.refl _ _,by rw[<-Agl];rfl⟩
 ·have e:Iy c=false:=by
   unfold Iy
   have hc:∀ k:UInt8,k.toNat<128->(c==k)=false:=fun k hk=>by rw[beq_eq_false_iff_ne];rintro rfl;exact h hk
   rw[hc 45 (by decide),hc 95 (by decide),hc 46 (by decide),hc 47 (by decide)];rfl
  rw[e]
  exact Agh c.toNat (by omega) (UInt8.toNat_lt c) w
theorem Al1 (c:UInt8):Jd c=((decide (97<=c.toNat)&&decide (c.toNat<=122))||((decide (48<=c.toNat)&&decide (c.toNat<=57))||Iy c)):=by
 unfold Jd Iy;simp only[Bool.or_assoc]
def Ail (w:World) (n:Nat) (l:List UInt8) (i:Value) (wr:World):Prop:=∃ k:Nat,i = .int .i64 k∧k<=n∧Below w.heap.size w wr∧l.all Jd=(l.drop k).all Jd
theorem Asi (s:List UInt8) (w:World) (hs:s.length<=1000000):Calls Tryz.prog 137 #[Ac s] w (Ret w (IsB (Dr s))):=by
 obtain⟨r,hr⟩:∃ r,r=Dr s:=⟨_,rfl⟩
 rw[<-hr]
 have HR:=Avp hr
 have HS:=Avp hs
 clear hr
 go_enter Tryz.func137,Tryz.ntmps137
 go_wp2_with fail
 rw[Qt]
 have hb2:=Fv w s
 have SL:=Avp (Ig w s hs)
 generalize Lib.bytesWorld w 5 ⟨⟨s⟩⟩=w2 at *
 generalize grownCap w s.length 0 5=G at *
 obtain⟨M,hM⟩:∃ M,M=w.heap.size:=⟨_,rfl⟩
 rw[<-hM] at SL ⊢
 have EM:=Avp hM
 have HB2:=Avp hb2;clear hb2 hM
 go_wp2
 go_loopw [8] (fun i wr=>Ail w2 s.length s i wr) (fun i _=>s.length - (intOf i).toNat)
 case atStart=>exact⟨0,rfl,Nat.zero_le _,Below.refl _ _,by rw[List.drop_zero]⟩
 case round=>
  obtain⟨k,rfl,hk,hb,hal⟩:=hrel
  have HB:=Avp hb;have AL:=Avp hal;have LK:=Avp hk
  clear hb hal hk
  by_cases hlt:k<s.length
  ·obtain⟨b,o,c,hA,hbk,hm,hd,c0⟩:=(SL.out.mono HB.out).byte (i:=k) hlt
   cases hA
   have c0':wr.cell? ⟨M,k,none⟩=some (.int .u8 c.toNat):=by simpa using c0
   have D1:=Avp hd;have LT:=Avp hlt
   have KB:=Avp (Al1 c)
   have RS:=Avp (fun w=>Aes c w)
   obtain⟨m,hm0⟩:∃ m,m=c.toNat:=⟨_,rfl⟩
   have m256:m<256:=by rw[hm0];exact UInt8.toNat_lt c
   rw[<-hm0] at KB RS c0'
   have hw32:IntKind.i32.wrap (m:Int)=m:=by simp[IntKind.wrap,IntKind.bits,IntKind.signed];omega
   clear hm hd c0 hbk hm0
   by_cases a1:m<97
   ·by_cases a3:m<48
    ·
     have E1:=Avp (decide_eq_false (show ¬(97<=m∧m<=122) by omega))
     have E2:=Avp (decide_eq_false (show ¬(48<=m∧m<=57) by omega))
     have KS:=Avp (show Jd c=Iy c by rw[KB.out,<-Bool.decide_and,<-Bool.decide_and,E1.out,E2.out];rfl)
     go_wp2_with fail
     refine(RS.out _).mono ?_
     rintro _ w3 ⟨_,rfl,hb3,rfl⟩
     have HB3:=Avp (HB.out.le hb3)
     clear hb3 c0'
     cases hsg:Iy c with
     | true=>
      have HK:=Avp (KS.out.trans hsg)
      clear hsg
      go_wp2
      go_roundw
      case rel=>exact⟨k+1,by simp,LT.out,HB3.out,by rw[AL.out,D1.out,List.all_cons,HK.out,Bool.true_and]⟩
      case measure=>simp[intOf];have:=LT.out;omega
     | false=>
      have HK:=Avp (KS.out.trans hsg)
      clear hsg
      have e:r=false:=by rw[HR.out];unfold Dr;rw[AL.out,D1.out,List.all_cons,HK.out];rfl
      subst e
      go_wp2
      go_ret
      exact Ay rfl (HB2.out.le HB3.out)
    ·by_cases a4:57<m
     ·
      have E1:=Avp (decide_eq_false (show ¬(97<=m∧m<=122) by omega))
      have E2:=Avp (decide_eq_false (show ¬(48<=m∧m<=57) by omega))
      have KS:=Avp (show Jd c=Iy c by rw[KB.out,<-Bool.decide_and,<-Bool.decide_and,E1.out,E2.out];rfl)
      go_wp2_with fail
      refine(RS.out _).mono ?_
      rintro _ w3 ⟨_,rfl,hb3,rfl⟩
      have HB3:=Avp (HB.out.le hb3)
      clear hb3 c0'
      cases hsg:Iy c with
      | true=>
       have HK:=Avp (KS.out.trans hsg)
       clear hsg
       go_wp2
       go_roundw
       case rel=>exact⟨k+1,by simp,LT.out,HB3.out,by rw[AL.out,D1.out,List.all_cons,HK.out,Bool.true_and]⟩
       case measure=>simp[intOf];have:=LT.out;omega
      | false=>
       have HK:=Avp (KS.out.trans hsg)
       clear hsg
       have e:r=false:=by rw[HR.out];unfold Dr;rw[AL.out,D1.out,List.all_cons,HK.out];rfl
       subst e
       go_wp2
       go_ret
       exact Ay rfl (HB2.out.le HB3.out)
     ·have HK:=Avp (show Jd c=true by rw[KB.out,<-Bool.decide_and,<-Bool.decide_and,decide_eq_true (show 48<=m∧m<=57 by omega)];simp)
      go_wp2
      go_roundw
      case rel=>exact⟨k+1,by simp,LT.out,HB.out,by rw[AL.out,D1.out,List.all_cons,HK.out,Bool.true_and]⟩
      case measure=>simp[intOf];have:=LT.out;omega
   ·by_cases a2:122<m
    ·have a3:¬m<48:=by omega
     have a4:57<m:=by omega
     have E1:=Avp (decide_eq_false (show ¬(97<=m∧m<=122) by omega))
     have E2:=Avp (decide_eq_false (show ¬(48<=m∧m<=57) by omega))
     have KS:=Avp (show Jd c=Iy c by rw[KB.out,<-Bool.decide_and,<-Bool.decide_and,E1.out,E2.out];rfl)
     go_wp2_with fail
     refine(RS.out _).mono ?_
     rintro _ w3 ⟨_,rfl,hb3,rfl⟩
     have HB3:=Avp (HB.out.le hb3)
     clear hb3 c0'
     cases hsg:Iy c with
     | true=>
      have HK:=Avp (KS.out.trans hsg)
      clear hsg
      go_wp2
      go_roundw
      case rel=>exact⟨k+1,by simp,LT.out,HB3.out,by rw[AL.out,D1.out,List.all_cons,HK.out,Bool.true_and]⟩
      case measure=>simp[intOf];have:=LT.out;omega
     | false=>
      have HK:=Avp (KS.out.trans hsg)
      clear hsg
      have e:r=false:=by rw[HR.out];unfold Dr;rw[AL.out,D1.out,List.all_cons,HK.out];rfl
      subst e
      go_wp2
      go_ret
      exact Ay rfl (HB2.out.le HB3.out)
    ·have HK:=Avp (show Jd c=true by rw[KB.out,<-Bool.decide_and,<-Bool.decide_and,decide_eq_true (show 97<=m∧m<=122 by omega)];simp)
     go_wp2
     go_roundw
     case rel=>exact⟨k+1,by simp,LT.out,HB.out,by rw[AL.out,D1.out,List.all_cons,HK.out,Bool.true_and]⟩
     case measure=>simp[intOf];have:=LT.out;omega
  ·obtain hkn:k=s.length:=by have:=LK.out;omega
   have hall:s.all Jd=true:=by rw[AL.out,hkn,List.drop_length];rfl
   have HALL:=Avp hall
   have HBW:=Avp (HB2.out.le HB.out)
   clear hall hkn
   by_cases l1:1<=s.length
   ·by_cases l2:s.length<=64
    ·have e:r=true:=by rw[HR.out];unfold Dr;rw[HALL.out];simp[l1,l2]
     subst e
     go_wp2
     go_ret
     first | exact Ay rfl HBW.out | exact Ay (decide_eq_true (by omega)) HBW.out | exact Ay (decide_eq_false (by omega)) HBW.out
    ·have e:r=false:=by rw[HR.out];unfold Dr;rw[HALL.out];simp[l2]
     subst e
     go_wp2
     go_ret
     first | exact Ay rfl HBW.out | exact Ay (decide_eq_true (by omega)) HBW.out | exact Ay (decide_eq_false (by omega)) HBW.out
   ·have e:r=false:=by rw[HR.out];unfold Dr;rw[HALL.out];simp;omega
    subst e
    go_wp2
    go_ret
    first | exact Ay rfl HBW.out | exact Ay (decide_eq_true (by omega)) HBW.out | exact Ay (decide_eq_false (by omega)) HBW.out
theorem Aib (a:UInt8) (t:List UInt8):(ByteArray.mk ⟨a::t⟩).extract 1 (t.length+1)=⟨⟨t⟩⟩:=by
 apply ByteArray.ext
 rw[ByteArray.data_extract]
 apply Array.ext'
 simp
theorem Ai5 (t:List UInt8) (a:UInt8):(ByteArray.mk ⟨t++[a]⟩).extract 0 t.length=⟨⟨t⟩⟩:=by
 apply ByteArray.ext
 rw[ByteArray.data_extract]
 apply Array.ext'
 simp
theorem Ajh (a:UInt8) (t:List UInt8) (w:World):(Instr.sliceAt 9 (Ac (a::t)) (some (.int .i64 1)) none none).run Tryz.prog w = .ok (Ac t) w:=by
 have h:(1:Int)<=(t.length:Int)+1:=by omega
 simp[go_sem,h,Aib]
theorem Ajc (t:List UInt8) (a:UInt8) (w:World):(Instr.sliceAt 9 (Ac (t++[a])) none (some (.int .i64 (t.length:Int))) none).run Tryz.prog w = .ok (Ac t) w:=by
 have h:(t.length:Int)<=(t.length:Int)+1:=by omega
 simp[go_sem,h,Ai5]
theorem Ak2 (t:List UInt8) (a:UInt8) (h:t.length<(ByteArray.mk ⟨t++[a]⟩).size):(ByteArray.mk ⟨t++[a]⟩)[t.length]=a:=by
 show(⟨t++[a]⟩:Array UInt8)[t.length]'(by simp)=a
 simp
theorem Ahq (a:UInt8) (t:List UInt8) (w:World):(Instr.index 9 (Ac (a::t)) (.int .i64 0)).run Tryz.prog w = .ok (.int .u8 a.toNat) w:=by
 simp[go_sem];rfl
theorem Aki (t:List UInt8) (a:UInt8) (w:World):(Instr.index 9 (Ac (t++[a])) (.int .i64 (t.length:Int))).run Tryz.prog w = .ok (.int .u8 a.toNat) w:=by
 have h:(t.length:Int)<(t.length:Int)+1:=by omega
 simp[go_sem,h,Ak2]
def Ll:List UInt8->List UInt8:=fun l=>l.dropWhile (· == 32)
def E7 (l:List UInt8):List UInt8:=(l.reverse.dropWhile (· == 32)).reverse
def Asf (w:World) (l0:List UInt8) (v:Value) (wr:World):Prop:=∃ l:List UInt8,v=Ac l∧Ll l=Ll l0∧l.length<=l0.length∧wr=w
theorem Aqo (s:List UInt8) (w:World) (hs:s.length<=1000000):Calls Tryz.prog 315 #[Ac s,.int .u8 32] w (Ret w (Is (Ac (Ll s)))):=by
 go_enter Tryz.func315,Tryz.ntmps315
 go_wp2
 go_loopw [0] (fun v wr=>Asf w s v wr) (fun v _=>match v with | .string b=>b.size | _=>0)
 case atStart=>exact⟨s,rfl,rfl,Nat.le_refl _,rfl⟩
 case round=>
  obtain⟨l,rfl,ht,hl,rfl⟩:=hrel
  have HT:=Avp ht;have HL:=Avp hl
  clear ht hl
  cases l with
  | nil=>
   go_wp2
   go_ret
   exact⟨_,rfl,Below.refl _ _,by rw[<-HT.out];rfl⟩
  | cons a t=>
   have h1:=fun w=>Ahq a t w
   have h2:=fun w=>Ajh a t w
   have hlen:t.length+1<=1000000:=by have:=HL.out;simp at this;omega
   have hsz:(ByteArray.mk ⟨a::t⟩).size=t.length+1:=rfl
   by_cases ha:a=32
   ·subst ha
    go_wp2
    go_roundw
    case rel=>exact⟨t,rfl,by rw[<-HT.out];rfl,by have:=HL.out;simp at this;omega,rfl⟩
    case measure=>show t.length<t.length+1;omega
   ·have e:(a==32)=false:=beq_eq_false_iff_ne.2 ha
    have e2:((a.toNat:Int)==32)=false:=by rw[beq_eq_false_iff_ne];intro h;exact ha (UInt8.toNat_inj.1 (by show a.toNat=32;omega))
    have e3:Ll s=a::t:=by rw[<-HT.out];unfold Ll;rw[List.dropWhile_cons,e];rfl
    have E3:=Avp e3
    clear e3
    go_wp2
    go_ret
    exact⟨_,rfl,Below.refl _ _,by rw[E3.out];rfl⟩
theorem O5 (t:List UInt8):E7 (t++[32])=E7 t:=by unfold E7;simp
theorem Oz (t:List UInt8) (a:UInt8) (h:a≠32):E7 (t++[a])=t++[a]:=by
 unfold E7
 have e:(a==32)=false:=beq_eq_false_iff_ne.2 h
 simp[List.dropWhile_cons,h]
def As2 (w:World) (l0:List UInt8) (v:Value) (wr:World):Prop:=∃ l:List UInt8,v=Ac l∧E7 l=E7 l0∧l.length<=l0.length∧wr=w
theorem Aqf (s:List UInt8) (w:World) (hs:s.length<=1000000):Calls Tryz.prog 316 #[Ac s,.int .u8 32] w (Ret w (Is (Ac (E7 s)))):=by
 go_enter Tryz.func316,Tryz.ntmps316
 go_wp2
 go_loopw [0] (fun v wr=>As2 w s v wr) (fun v _=>match v with | .string b=>b.size | _=>0)
 case atStart=>exact⟨s,rfl,rfl,Nat.le_refl _,rfl⟩
 case round=>
  obtain⟨l,rfl,ht,hl,rfl⟩:=hrel
  have HT:=Avp ht;have HL:=Avp hl
  clear ht hl
  rcases List.eq_nil_or_concat l with rfl | ⟨t,a,rfl⟩
  ·go_wp2
   go_ret
   exact⟨_,rfl,Below.refl _ _,by rw[<-HT.out];rfl⟩
  ·rw[List.concat_eq_append] at *
   have h1:=fun w=>Aki t a w
   have h2:=fun w=>Ajc t a w
   have hlen:t.length+1<=1000000:=by have:=HL.out;simp at this;omega
   by_cases ha:a=32
   ·subst ha
    go_wp2
    go_roundw
    case rel=>exact⟨t,rfl,by rw[<-HT.out,O5],by have:=HL.out;simp at this;omega,rfl⟩
    case measure=>show t.length<(t++[32]).length;simp
   ·have e:(a==32)=false:=beq_eq_false_iff_ne.2 ha
    have e2:((a.toNat:Int)==32)=false:=by rw[beq_eq_false_iff_ne];intro h;exact ha (UInt8.toNat_inj.1 (by show a.toNat=32;omega))
    have E3:=Avp (show E7 s=t++[a] by rw[<-HT.out,Oz t a ha])
    go_wp2
    go_ret
    exact⟨_,rfl,Below.refl _ _,by rw[E3.out];rfl⟩
end Go.Proofs.YthnbhjpahlceeaaGreatDoor
