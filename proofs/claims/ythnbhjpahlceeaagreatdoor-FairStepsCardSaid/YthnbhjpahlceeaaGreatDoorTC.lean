/-
  bytes.Reader: String, Take, At, Left; bytes.New.
-/
import Derived.Test.YthnbhjpahlceeaaGreatDoorTB
import Derived.Recover
import Derived.Shelf.SlSortCmp.WholeK
import Derived.Test.YthnbhjpahlceeaaGreatDoorProg
import Derived.Ground.SlsfProg
import Derived.Lib.ConvBytes
set_option maxRecDepth 100000
set_option maxHeartbeats 8000000
set_option linter.unusedSectionVars false
set_option linter.unusedVariables false
set_option linter.unusedSimpArgs false
set_option maxRecDepth 100000
set_option maxHeartbeats 8000000
namespace Go.Proofs.YthnbhjpahlceeaaGreatDoor
open Go.RowKit
theorem Anq {B R X k most:Nat} {l:List UInt8} {w:World} (h:De B R l k w) (hB:B<=w.heap.size) (hl:l.length<=1000000) (hX:w.cell? ⟨X,0,none⟩=some (.int .i64 (most:Int))) (hXR:X≠R) (hm:most<=100000) :
  Calls Tryz.prog 305 #[.pointer (some ⟨R,0,none⟩),.func (.func 306) #[] #[.pointer (some ⟨X,0,none⟩)]] w (fun e w'=>
   e = .returned (.tuple #[Ac (Dm most (l.drop k)).2.1,.int .i64 (Dm most (l.drop k)).1])∧An R none w w'∧De B R l (k+(Dm most (l.drop k)).2.2) w'):=by
 have C:=Avp (Tn h)
 have H:=Avp h;have HB:=Avp hB;have HL:=Avp hl;have HX:=Avp hX;have HXR:=Avp hXR;have HM:=Avp hm
 clear h hB hl hX hXR hm
 have NE:=Avp (fun h=>Ajr (most:=most) (r:=l.drop k) h)
 generalize hr:l.drop k=r at *
 have HR:=Avp hr
 clear hr
 go_enter Tryz.func305,Tryz.ntmps305
 go_wp2_with fail
 refine C.out.mono ?_
 rintro _ w1 ⟨_,rfl,hb1,rfl⟩
 have H1:=Avp (H.out.keep (Ak hb1 HB.out) HB.out)
 have HB1:=Avp (show B<=w1.heap.size from Nat.le_trans HB.out hb1.size)
 have W1:=Avp (An.ofBelow hb1:An R none w w1)
 have q2:=H1.out.c2
 have CS:=Avp (Ag5 H1.out HB1.out HL.out (Ad hb1 HX.out) HXR.out HM.out)
 clear hb1 C
 unfold Arb at CS
 rw[HR.out] at CS
 go_wp2_with fail
 refine CS.out.mono ?_
 rintro _ w2 ⟨rfl,hw2,j,hr2,hj⟩
 have W2:=Avp (W1.out.trans hw2 (.inl rfl));have H2:=Avp hr2;have HJ:=Avp hj
 clear hw2 hr2 q2 CS hj
 obtain⟨e,s,u,hq⟩:∃ e s u,Dm most r=(e,s,u):=⟨_,_,_,rfl⟩
 rw[hq] at NE HJ ⊢
 have HQ:=Avp hq
 clear hq
 simp only at NE HJ
 by_cases he:e=0
 ·subst he
  have ej:=HJ.out rfl
  go_wp2
  refine bodyPost_ret (v:=.tuple #[Ac s,.int .i64 0]) (by simp[results,Tryz.results305,go_sem]) rfl ?_
  rw[HQ.out]
  exact⟨rfl,W2.out,by have:=H2.out;rw[ej] at this;exact this⟩
 ·have E:=NE.out he
  simp only[Prod.mk.injEq] at E
  obtain⟨rfl,rfl⟩:=E
  have he':(e != 0)=true:=by simp[he]
  have q2:=H2.out.c2;have q3:=H2.out.fr
  go_wp2
  refine bodyPost_ret (v:=.tuple #[Ac [],.int .i64 e]) (by simp[results,Tryz.results305,go_sem]) rfl ?_
  rw[HQ.out]
  exact⟨rfl,W2.out.setAny _,H2.out.set_ H1.out.le⟩
theorem Adb {B R k most:Nat} {l:List UInt8} {w:World} (h:De B R l k w) (hB:B<=w.heap.size) (hl:l.length<=1000000) (hm:most<=100000) :
  Calls Tryz.prog 224 #[.pointer (some ⟨R,0,none⟩),.int .i64 (most:Int)] w (fun e w'=>
   e = .returned (.tuple #[Ac (Dm most (l.drop k)).2.1,.int .i64 (Dm most (l.drop k)).1])∧An R none w w'∧De B R l (k+(Dm most (l.drop k)).2.2) w'):=by
 have hb1:Below w.heap.size w (w.alloc (.cells #[.int .i64 (most:Int)] 3)):=(Below.refl _ _).alloc (Nat.le_refl _) _
 have H1:=h.keep (Ak hb1 hB) hB
 have hR:=h.size
 have CS:=Avp (Anq (X:=w.heap.size) H1 (Nat.le_trans hB hb1.size) hl (by simp[go_sem]) (by omega) hm)
 have B1:=Avp hb1
 clear h hB hl hm hb1 H1 hR
 generalize Dm most (l.drop k)=q at *
 obtain⟨e,s,u⟩:=q
 simp only at CS ⊢
 go_enter Tryz.func224,Tryz.ntmps224
 go_wp2_with fail
 refine CS.out.mono ?_
 rintro _ w2 ⟨rfl,hw2,hr2⟩
 have W2:=Avp ((An.ofBelow B1.out:An R none w _).trans hw2 (.inl rfl));have H2:=Avp hr2
 clear hw2 hr2
 go_wp2
 refine bodyPost_ret (v:=.tuple #[Ac s,.int .i64 e]) (by simp[results,Tryz.results224,go_sem]) rfl ?_
 exact⟨rfl,W2.out,H2.out⟩
theorem Ap1 {B R k n:Nat} {l:List UInt8} {w:World} (h:De B R l k w) (hB:B<=w.heap.size) (hl:l.length<=1000000) (hn:n<=1000000):Calls Tryz.prog 227 #[.pointer (some ⟨R,0,none⟩),.int .i64 (n:Int)] w (fun e w'=>
  ∃ v,e = .returned (.tuple #[v,.int .i64 (if l.length - k<n then 4 else 0)])∧An R none w w'∧De B R l (if l.length - k<n then k else k+n) w'):=by
 have C:=Avp (Tn h)
 have H:=Avp h;have HB:=Avp hB;have HL:=Avp hl
 have wn:=wrap_u64 (a:=n) (by omega)
 have h0:¬(n:Int)<0:=by omega
 have HN:=Avp hn
 have TK0:=Avp (fun(w1:World) (h1:De B R l k w1) (hB1:B<=w1.heap.size)=>show Calls Tryz.prog 307 #[.pointer (some ⟨R,0,none⟩),.int .u64 (n:Int)] w1 (fun e w'=>∃ v,e = .returned (.tuple #[v,.int .i64 (if l.length - k<n then 4 else 0)])∧An R none w1 w'∧De B R l (if l.length - k<n then k else k+n) w') from
  (Aph (n:=n) h1 hB1 HL.out (by have:=HN.out;omega)).mono fun e w' ⟨v,h1,h2,h3⟩=>⟨v,h1,h2,by
   by_cases hs:l.length - k<n
   ·rw[if_pos hs] at h3 ⊢;exact h3.2
   ·rw[if_neg hs] at h3 ⊢;exact h3.2⟩)
 clear h hB hl hn
 generalize (if l.length - k<n then (4:Int) else 0)=e at *
 generalize (if l.length - k<n then k else k+n)=j at *
 go_enter Tryz.func227,Tryz.ntmps227
 go_wp2_with fail
 refine C.out.mono ?_
 rintro _ w1 ⟨_,rfl,hb1,rfl⟩
 have W1:=Avp (An.ofBelow hb1:An R none w w1)
 have TK:=Avp (TK0.out w1 (H.out.keep (Ak hb1 HB.out) HB.out) (Nat.le_trans HB.out hb1.size))
 clear hb1 C
 go_wp2_with fail
 refine TK.out.mono ?_
 rintro _ w2 ⟨v2,rfl,hw2,hr2⟩
 have W2:=Avp (W1.out.trans hw2 (.inl rfl));have H2:=Avp hr2
 clear hw2 TK hr2
 go_wp2
 refine bodyPost_ret (v:=.tuple #[v2,.int .i64 e]) (by simp[results,Tryz.results227,go_sem]) rfl ?_
 exact⟨v2,rfl,W2.out,H2.out⟩
theorem cAt {B R k:Nat} {l:List UInt8} {w:World} (h:De B R l k w):Calls Tryz.prog 226 #[.pointer (some ⟨R,0,none⟩)] w (Ret w (IsI (k:Int))):=by
 have C:=Avp (Tn h)
 have c2:=h.c2
 clear h
 go_enter Tryz.func226,Tryz.ntmps226
 go_wp2_with fail
 refine C.out.mono ?_
 rintro _ w1 ⟨_,rfl,hb1,rfl⟩
 have c2':=Ad hb1 c2
 have B1:=Avp hb1
 clear hb1 c2
 go_wp2
 go_ret
 exact Gz rfl B1.out
theorem Asu {B R k:Nat} {l:List UInt8} {w:World} (h:De B R l k w) (hB:B<=w.heap.size):Calls Tryz.prog 228 #[.pointer (some ⟨R,0,none⟩)] w (Ret w (IsI ((l.length - k:Nat):Int))):=by
 have C:=Avp (Tn h)
 have H:=Avp h;have HB:=Avp hB
 clear h hB
 go_enter Tryz.func228,Tryz.ntmps228
 go_wp2_with fail
 refine C.out.mono ?_
 rintro _ w1 ⟨_,rfl,hb1,rfl⟩
 have B1:=Avp hb1
 have CR:=Avp (Adm (H.out.keep (Ak hb1 HB.out) HB.out))
 clear hb1 C
 go_wp2_with fail
 refine CR.out.mono ?_
 rintro _ w2 ⟨_,rfl,hb2,A,c,rfl,hs,hA⟩
 have hbig:=hs.big
 have B2:=Avp (B1.out.le hb2)
 rw[List.length_drop] at hbig ⊢
 clear hb2 hs hA CR
 generalize l.length - k=m at *
 go_wp2
 go_ret
 exact Gz rfl B2.out
theorem Apd {A:Option Addr} {n c:Nat} {l:List UInt8} {w:World} (h:Sl encB w A n c l) (hl:n<=1000000):Calls Tryz.prog 222 #[.slice A n c] w (fun e w'=>∃ R,e = .returned (.pointer (some ⟨R,0,none⟩))∧Below w.heap.size w w'∧w.heap.size<=R∧De (R+1) R l 0 w'):=by
 have C:=Avp (Ag6 A n c l w h hl)
 clear h hl
 go_enter Tryz.func222,Tryz.ntmps222
 go_wp2_with fail
 refine C.out.mono ?_
 rintro _ w1 ⟨v1,rfl,hb1,ho1⟩
 obtain⟨A1,c1,rfl,s1⟩:=Ag.sl ho1
 have hown:=Ag.own ho1
 have B1:=Avp hb1;have S1:=Avp s1;have HO:=Avp hown
 clear hb1 s1 hown ho1 C
 go_wp2
 go_ret
 refine⟨w1.heap.size,rfl,B1.out.alloc B1.out.size _,B1.out.size,⟨by simp[go_sem],⟨A1,c1,by simp[go_sem],S1.out.mono ((Below.refl _ _).alloc (Nat.le_refl _) _),fun a e=>?_⟩,by simp[go_sem],by simp[go_sem],by omega,Nat.zero_le _⟩⟩
 subst e
 have:=HO.out a.block rfl
 exact⟨by omega,by omega⟩
theorem Aam (w:World):Calls Tryz.prog 422 #[.int .i64 0] w (fun e w'=>e = .returned (.tuple #[])∧w'=w):=by
 go_enter Tryz.func422,Tryz.ntmps422
 go_wp2
 go_end0
 exact⟨rfl,rfl⟩
theorem Aiw {e:Int} (h:e≠0) (w:World):Calls Tryz.prog 422 #[.int .i64 e] w (fun x w'=>x = .panicked [{ v:=.iface 446 (.agg #[]),recovered:=false }]∧w'=w):=by
 have he:(e != 0)=true:=by simp[h]
 go_enter Tryz.func422,Tryz.ntmps422
 go_wp2
 exact⟨rfl,rfl,rfl⟩
abbrev Wg:Value:=.iface 446 (.agg #[])
def RdQ {α:Type} (B R:Nat) (l:List UInt8) (k:Nat) (o:Option (α×Nat)) (V:α->World->Value->Prop) (w:World) (e:Ending) (w':World):Prop:=
 An R none w w'∧match o with
  | some (x,u)=>(∃ v,e = .returned v∧V x w' v)∧De B R l (k+u) w'∧k+u<=l.length
  | none=>e = .panicked [{ v:=Wg,recovered:=false }]
def Fy (most:Nat) (r:List UInt8):Option (Nat×Nat):=if (Dx most r).1=0 then some (Dx most r).2 else none
theorem Zh {most:Nat} {r:List UInt8} (h:(Dx most r).1=0):1<=(Dx most r).2.2:=by
 have key:(Fm r).1=0->1<=(Fm r).2.2:=by
  unfold Fm
  dsimp only
  split
  ·split <;> intro h <;> simp at h
  ·split
   ·intro h;simp at h
   ·intro _;simp
 unfold Dx at h ⊢
 split
 ·rename_i h1
  rw[if_pos h1] at h
  split
  ·rename_i h2;rw[if_pos h2] at h;simp at h
  ·exact key h1
 ·rename_i h1
  rw[if_neg h1] at h
  exact absurd h h1
theorem Cl {most:Nat} {r:List UInt8} {x u:Nat} (h:Fy most r=some (x,u)):(Dx most r)=(0,x,u)∧1<=u∧u<=r.length∧x<=most:=by
 unfold Fy at h
 split at h
 ·rename_i h1
  have h2:=Zh h1
  have h3:=Ns most r
  have h4:=Al0 h1
  have h5:(Dx most r).2=(x,u):=Option.some.inj h
  rw[h5] at h2 h3 h4
  exact⟨Prod.ext h1 h5,h2,h3,h4⟩
 ·cases h
theorem Tw {most:Nat} {r:List UInt8} (h:Fy most r=none):(Dx most r).1≠0∧(Dx most r).2=(0,0):=by
 unfold Fy at h
 split at h
 ·cases h
 ·rename_i h1
  exact⟨h1,W5 h1⟩
theorem Lg {B R k most:Nat} {l:List UInt8} {w:World} (h:De B R l k w) (hB:B<=w.heap.size):Calls Tryz.prog 381 #[.pointer (some ⟨R,0,none⟩),.int .u64 (most:Int)] w (RdQ B R l k (Fy most (l.drop k)) (fun x _ v=>v = .int .u64 (x:Nat)) w):=by
 have C:=Avp (Aqn (most:=most) h hB)
 have hk:=h.le
 have LK:=Avp (show(l.drop k).length=l.length - k from List.length_drop ..)
 clear h hB
 generalize l.drop k=r at *
 unfold RdQ
 cases ho:Fy most r with
 | some q=>
  obtain⟨x,u⟩:=q
  obtain⟨hq,h1,h2,h3⟩:=Cl ho
  rw[hq] at C
  have HU:=Avp (show k+u<=l.length by have:=LK.out;omega)
  clear ho hq h1 h2 h3 hk
  simp only at C ⊢
  go_enter Tryz.func381,Tryz.ntmps381
  go_wp2_with fail
  refine C.out.mono ?_
  rintro _ w1 ⟨rfl,hw1,hr1⟩
  have W1:=Avp hw1;have H1:=Avp hr1
  clear hw1 hr1 C
  go_wp2_with fail
  refine(Aam w1).mono ?_
  rintro _ w2 ⟨rfl,rfl⟩
  go_wp2
  go_ret
  exact⟨W1.out,⟨_,rfl,rfl⟩,H1.out,HU.out⟩
 | none=>
  obtain⟨h1,h2⟩:=Tw ho
  generalize Dx most r=q at *
  obtain⟨e,v,u⟩:=q
  simp only[Prod.mk.injEq] at h1 h2 C ⊢
  obtain⟨rfl,rfl⟩:=h2
  clear ho hk
  go_enter Tryz.func381,Tryz.ntmps381
  go_wp2_with fail
  refine C.out.mono ?_
  rintro _ w1 ⟨rfl,hw1,hr1⟩
  have W1:=Avp hw1
  clear hw1 hr1 C
  go_wp2_with fail
  refine(Aiw h1 w1).mono ?_
  rintro _ w2 ⟨rfl,rfl⟩
  exact⟨rfl,W1.out,rfl⟩
structure DSt (B R J:Nat) (w0:World) (l:List UInt8) (k:Nat) (cs:List Value) (w:World):Prop where
 wr:An R none w0 w
 rd:De B R l k w
 bx:Bx w J cs
 hB:B<=w0.heap.size
 hJ:w0.heap.size<=J
section
variable {B R J k j:Nat} {w0 w w':World} {l:List UInt8} {cs:List Value}
theorem DSt.step (h:DSt B R J w0 l k cs w) (hw:An R none w w') (hr:De B R l j w'):DSt B R J w0 l j cs w':=
 ⟨h.wr.trans hw (.inl rfl),hr,h.bx.wrote hw (by have:=h.hB;have:=h.hJ;have:=h.rd.lt;omega) (by simp),h.hB,h.hJ⟩
theorem DSt.mono (h:DSt B R J w0 l k cs w) (hb:Below w.heap.size w w'):DSt B R J w0 l k cs w':=
 ⟨h.wr.le (Ak hb h.wr.size),h.rd.keep (Ak hb (Nat.le_trans h.hB h.wr.size)) (Nat.le_trans h.hB h.wr.size),h.bx.mono hb,h.hB,h.hJ⟩
theorem DSt.end_ (h:DSt B R J w0 l k cs w) (hu:Upd J w w'):An R none w0 w'∧De B R l k w':=
 ⟨h.wr.le (hu.below h.hJ),h.rd.keep (hu.below (Nat.le_trans h.hB h.hJ)) (Nat.le_trans h.hB h.wr.size)⟩
theorem DSt.base (h:DSt B R J w0 l k cs w):B<=w.heap.size:=Nat.le_trans h.hB h.wr.size
theorem DSt.start (hr:De B R l k w) (hB:B<=w.heap.size) (cs:Array Value) (ty:TypeId):DSt B R w.heap.size w l k cs.toList (w.alloc (.cells cs ty)):=by
 have hx:Below w.heap.size w (w.alloc (.cells cs ty)):=(Below.refl _ _).alloc (Nat.le_refl _) _
 exact⟨An.ofBelow hx,hr.keep (Ak hx hB) hB,Bx.new w _ _,hB,Nat.le_refl _⟩
end
def Pq (r:List UInt8):Option (Dot×Nat):=
 match Fy 65535 r with
 | none=>none
 | some (a,u)=>match Fy 4294967295 (r.drop u) with
  | none=>none
  | some (b,v)=>some (((a:Int),(b:Int)),u+v)
theorem Apk {B R k:Nat} {l:List UInt8} {w:World} (h:De B R l k w) (hB:B<=w.heap.size):Calls Tryz.prog 423 #[.pointer (some ⟨R,0,none⟩)] w (RdQ B R l k (Pq (l.drop k)) (fun d _ v=>v = .agg #[.int .i64 d.1,.int .i64 d.2]) w):=by
 have S0:=Avp (DSt.start h hB #[.int .i64 0,.int .i64 0] 224)
 have DK:=Avp (fun u=>show(l.drop k).drop u=l.drop (k+u) from List.drop_drop ..)
 obtain⟨J,hJ⟩:∃ J,J=w.heap.size:=⟨_,rfl⟩
 rw[<-hJ] at S0
 have EJ:=Avp hJ
 have C1:=Avp (Lg (most:=65535) S0.out.rd S0.out.base)
 clear h hB hJ
 unfold RdQ Pq
 unfold RdQ at C1
 cases h1:Fy 65535 (l.drop k) with
 | none=>
  rw[h1] at C1
  simp only at C1 ⊢
  go_enter Tryz.func423,Tryz.ntmps423
  go_wp2_with fail
  refine C1.out.mono ?_
  rintro _ w1 ⟨hw1,rfl⟩
  exact⟨rfl,S0.out.wr.trans hw1 (.inl rfl),rfl⟩
 | some q=>
  obtain⟨a,u⟩:=q
  rw[h1] at C1
  simp only at C1 ⊢
  rw[DK.out u]
  have ha:=(Cl h1).2.2.2
  have wa:=Kt (n:=a) (by omega)
  clear h1
  cases h2:Fy 4294967295 (l.drop (k+u)) with
  | none=>
   simp only
   go_enter Tryz.func423,Tryz.ntmps423
   go_wp2_with fail
   rw[<-EJ.out]
   refine C1.out.mono ?_
   rintro _ w1 ⟨hw1,⟨_,rfl,rfl⟩,hr1,hle⟩
   have S1:=Avp (S0.out.step hw1 hr1)
   have C2:=Avp (Lg (most:=4294967295) S1.out.rd S1.out.base)
   unfold RdQ at C2
   rw[h2] at C2
   simp only at C2
   clear hw1 hr1 hle C1
   go_wp2_with fail
   refine C2.out.mono ?_
   rintro _ w2 ⟨hw2,rfl⟩
   exact⟨rfl,S1.out.wr.trans hw2 (.inl rfl),rfl⟩
  | some q=>
   obtain⟨b,v⟩:=q
   simp only
   have hb:=(Cl h2).2.2.2
   have wb:=Kt (n:=b) (by omega)
   go_enter Tryz.func423,Tryz.ntmps423
   go_wp2_with fail
   rw[<-EJ.out]
   refine C1.out.mono ?_
   rintro _ w1 ⟨hw1,⟨_,rfl,rfl⟩,hr1,hle⟩
   have S1:=Avp (S0.out.step hw1 hr1)
   have C2:=Avp (Lg (most:=4294967295) S1.out.rd S1.out.base)
   unfold RdQ at C2
   rw[h2] at C2
   simp only at C2
   clear hw1 hr1 hle C1 h2
   go_wp2_with fail
   refine C2.out.mono ?_
   rintro _ w2 ⟨hw2,⟨_,rfl,rfl⟩,hr2,hle⟩
   have S2:=Avp (S1.out.step hw2 hr2)
   have HLE:=Avp hle
   clear hw2 hr2 hle C2 ha hb
   go_wp2_with ((with_reducible refine Ai J ?_ ?_);(next=>rfl))
   unfold Az
   refine Af (J:=J) rfl rfl rfl rfl rfl S2.out.bx (show(Tryz.prog.info? 224).map (·.size)=some 2 by kernel_rfl) rfl (by simp[Value.oneCell']) ?_
   intro w9 hx9 hu9
   have X9:=Avp hx9;have U9:=Avp hu9
   clear hx9 hu9 wa wb
   go_wp2
   refine bodyPost_ret (v:=.agg #[.int .i64 a,.int .i64 b]) ?_ rfl ?_
   ·exact D5 Tryz.results423 rfl X9.out Tryz.underlying224 rfl (show(Tryz.prog.info? 224).map (·.size)=some 2 by kernel_rfl)
   obtain⟨k1,k2⟩:=S2.out.end_ U9.out
   exact⟨k1,rfl,by rw[<-Nat.add_assoc];exact k2,by have:=HLE.out;omega⟩
theorem Akr (w:World) (d:Dot) (ty:TypeId):Bc (w.alloc (.cells #[.int .i64 d.1,.int .i64 d.2] ty)) (some ⟨w.heap.size,0,none⟩) 1 1 [d]:=
 ⟨rfl,Nat.le_refl _,by unfold maxLen;omega,(fun e=>nomatch e),fun j e hj=>by
  have:j=0:=by have:=(List.getElem?_eq_some_iff.1 hj).1;simpa using this
  subst this
  simp at hj;subst hj
  exact⟨w.heap.size,0,rfl,by simp,by simp[go_sem],by simp[go_sem]⟩⟩
def Hy {α:Type} (d:α) (u:Nat):Option (List α×Nat)->Option (List α×Nat)
 | none=>none
 | some (t,v)=>some (d::t,u+v)
def Kb:Nat->List UInt8->Option (List Dot×Nat)
 | 0,_=>some ([],0)
 | n+1,r=>match Pq r with
  | none=>none
  | some (d,u)=>Hy d u (Kb n (r.drop u))
def Dn {α:Type} (acc:List α) (c:Nat):Option (List α×Nat)->Option (List α×Nat)
 | none=>none
 | some (t,v)=>some (acc++t,c+v)
def Nm (r:List UInt8):Option (List Dot×Nat):=
 match Fy 18446744073709551615 r with
 | none=>none
 | some (n,u)=>Dn [] u (Kb n (r.drop u))
theorem Kx {α:Type} (acc:List α) (c u:Nat) (d:α) (o:Option (List α×Nat)):Dn acc c (Hy d u o)=Dn (acc++[d]) (c+u) o:=by
 cases o with
 | none=>rfl
 | some q=>obtain⟨t,v⟩:=q;simp[Dn,Hy,Nat.add_assoc]
theorem Kr {r:List UInt8} {d:Dot} {u:Nat} (h:Pq r=some (d,u)):1<=u∧u<=r.length:=by
 unfold Pq at h
 split at h
 ·cases h
 ·rename_i a u1 h1
  split at h
  ·cases h
  ·rename_i b v h2
   have e1:=Cl h1
   have e2:=Cl h2
   rw[List.length_drop] at e2
   simp only[Option.some.injEq,Prod.mk.injEq] at h
   omega
theorem Row.wrote {w w':World} {B R:Nat} {v:Value} {l:List Dot} (h:Row w B v l) (hw:An R none w w') (hN:R<B):Row w' B v l:=by
 refine⟨h.1,?_⟩
 rcases h.2 with h2 | ⟨g,cap,cur,hv,hg,hh,r⟩
 ·exact .inl h2
 ·exact .inr ⟨g,cap,cur,hv,hg,(hw.block g (Array.getElem?_eq_some_iff.1 hh).1 (by omega) (by simp)).trans hh,r⟩
theorem Cp {α:Type} (l:List α) (a b:Nat):(l.drop a).drop b=l.drop (a+b):=List.drop_drop ..
theorem Aqi {a j n:Nat} (h1:a<=j) (h2:j<=n) (h3:n<=1000000):a+1<=1000000000:=by omega
def Ao4 (B R:Nat) (l:List UInt8) (k:Nat) (T:Option (List Dot×Nat)) (w:World) (a s:Value) (wr:World):Prop:=
 ∃ m acc j,s = .int .u64 (m:Nat)∧m<18446744073709551616∧An R none w wr∧De B R l j wr∧Row wr w.heap.size a acc∧k<=j∧acc.length<=j∧T=Dn acc (j - k) (Kb m (l.drop j))
theorem U7 {B R k:Nat} {l:List UInt8} {w:World} (h:De B R l k w) (hB:B<=w.heap.size) (hl:l.length<=1000000):Calls Tryz.prog 421 #[.pointer (some ⟨R,0,none⟩)] w (RdQ B R l k (Nm (l.drop k)) (fun t w' v=>Row w' w.heap.size v t) w):=by
 have H:=Avp h;have HB:=Avp hB;have HL:=Avp hl
 have C1:=Avp (Lg (most:=18446744073709551615) h hB)
 clear h hB hl
 unfold RdQ
 unfold RdQ at C1
 obtain⟨T,hT⟩:∃ T,T=Nm (l.drop k):=⟨_,rfl⟩
 rw[<-hT]
 unfold Nm at hT
 cases h1:Fy 18446744073709551615 (l.drop k) with
 | none=>
  rw[h1] at C1 hT
  simp only at C1 hT
  subst hT
  go_enter Tryz.func421,Tryz.ntmps421
  go_wp2_with fail
  refine C1.out.mono ?_
  rintro _ w1 ⟨hw1,rfl⟩
  exact⟨rfl,hw1,rfl⟩
 | some q=>
  obtain⟨n,u⟩:=q
  rw[h1] at C1 hT
  simp only at C1 hT
  rw[Cp] at hT
  have HT:=Avp hT
  have hn:=Cl h1
  rw[List.length_drop] at hn
  have HN:=Avp hn
  clear h1 hT hn
  go_enter Tryz.func421,Tryz.ntmps421
  go_wp2_with fail
  refine C1.out.mono ?_
  rintro _ w1 ⟨hw1,⟨_,rfl,rfl⟩,hr1,hle⟩
  have W1:=Avp hw1;have R1:=Avp hr1;have HLE:=Avp hle
  clear hw1 hr1 hle C1
  go_wp2
  go_loopw [3,4] (fun a s wr=>Ao4 B R l k T w a s wr) (fun _ s _=>(intOf s).toNat)
  case atStart=>exact⟨n,[],k+u,rfl,by have:=HN.out.2.2.2;omega,W1.out,R1.out,Row.nil_ _ _,by omega,by simp,by rw[HT.out];congr 1;omega⟩
  case round=>
   obtain⟨m,acc,j,rfl,hm,hw,hr,ho,hkj,hac,hv⟩:=hrel
   have HW:=Avp hw;have HR:=Avp hr;have HO:=Avp ho;have HV:=Avp hv;have HK:=Avp hkj;have HA:=Avp hac
   clear hw hr ho hv hkj hac
   cases m with
   | zero=>
    have e:=HV.out
    unfold Kb Dn at e
    simp only[List.append_nil,Nat.add_zero] at e
    clear HV HT
    subst e
    go_wp2
    go_ret
    refine⟨HW.out,⟨_,rfl,HO.out⟩,?_,?_⟩
    ·have:=HR.out
     rw[show k+(j - k)=j by have:=HK.out;omega]
     exact this
    ·have:=HR.out.le;have:=HK.out;omega
   | succ m=>
    have hpos:(0:Int)<((m+1:Nat):Int):=by omega
    have HBW:=Avp (show B<=wr.heap.size from Nat.le_trans HB.out HW.out.size)
    have C2:=Avp (Apk HR.out HBW.out)
    unfold RdQ at C2
    have e:=HV.out
    unfold Kb at e
    cases h2:Pq (l.drop j) with
    | none=>
     rw[h2] at C2 e
     simp only[Dn] at C2 e
     subst e
     go_wp2_with fail
     refine C2.out.mono ?_
     rintro _ w2 ⟨hw2,rfl⟩
     exact⟨rfl,HW.out.trans hw2 (.inl rfl),rfl⟩
    | some q=>
     obtain⟨d,v⟩:=q
     rw[h2] at C2 e
     simp only at C2 e
     have hd:=Kr h2
     rw[Kx,Cp] at e
     have E:=Avp e
     rw[List.length_drop] at hd
     have HD:=Avp hd
     clear e h2 hd
     go_wp2_with fail
     refine C2.out.mono ?_
     rintro _ w2 ⟨hw2,⟨_,rfl,rfl⟩,hr2,hle2⟩
     have W2:=Avp (HW.out.trans hw2 (.inl rfl));have R2:=Avp hr2;have HLE2:=Avp hle2
     have O2:=Avp (HO.out.wrote hw2 (by have:=HR.out.lt;have:=HB.out;omega))
     have hb3:Below w2.heap.size w2 (w2.alloc (.cells #[.int .i64 d.1,.int .i64 d.2] 224)):=(Below.refl _ _).alloc (Nat.le_refl _) _
     have O3:=Avp (O2.out.mono hb3)
     have D3:=Avp (Akr w2 d 224)
     have W3:=Avp (W2.out.le (Ak hb3 W2.out.size))
     have HB3:=Avp (show B<=w2.heap.size from Nat.le_trans HB.out W2.out.size)
     have R3:=Avp (R2.out.keep (Ak hb3 HB3.out) HB3.out)
     clear hw2 hr2 hle2 C2 hb3
     go_wp2_with (first
      | (at_builtin;refine D4 (B:=w.heap.size) (l:=acc) (k:=[d]) rfl rfl Tryz.underlying135 rfl rfl O3.out D3.out (by have h1:=HA.out;have h2:=HR.out.le;have h3:=HL.out;simp only[List.length_cons,List.length_nil];exact Aqi h1 h2 h3) W3.out.size ?_;intro v5 v5w r5 g5;have R5:=Avp r5;have G5:=Avp g5;clear r5 g5)
      | fail)
     have g5:(w2.alloc (.cells #[.int .i64 d.1,.int .i64 d.2] 224)).grownBy v5w u3.ownBlock:=G5.out
     have hb5:Below w.heap.size (w2.alloc (.cells #[.int .i64 d.1,.int .i64 d.2] 224)) v5w:=(Below.refl _ _).grown g5 W3.out.size (fun q hq=>Row.own _ O3.out q hq)
     have h3:=R3.out.keep (Ak hb5 HB.out) (Nat.le_trans HB.out W3.out.size)
     have hk:=HK.out;have ha:=HA.out;have hd:=HD.out
     refine⟨⟨m,acc++[d],j+v,rfl,by omega,W3.out.le hb5,h3,R5.out,by omega,by simp;omega,?_⟩,by simp[intOf]⟩
     rw[E.out]
     congr 1
     omega
def Ub (r:List UInt8):Option (Ctx×Nat):=
 match Nm r with
 | none=>none
 | some (v,u)=>match Nm (r.drop u) with
  | none=>none
  | some (c,x)=>if Ic (v,c) then some ((v,c),u+x) else none
def Aak (b:Nat) (c:Ctx) (w:World) (v:Value):Prop:=∃ A n ca B m cb,v = .agg #[.slice A n ca,.slice B m cb]∧Row w b (.slice A n ca) c.1∧Row w b (.slice B m cb) c.2
theorem Row.asDots' {w:World} {B:Nat} {A:Option Addr} {n c:Nat} {l:List Dot} (h:Row w B (.slice A n c) l):Bc w A n c l:=by
 obtain⟨A',c',e,hd⟩:=Row.dots h
 cases e
 exact hd
theorem Row.upd {w w':World} {B J:Nat} {v:Value} {l:List Dot} (h:Row w B v l) (hu:Upd J w w') (hj:∀ k,v.ownBlock=some k->k≠J):Row w' B v l:=by
 refine⟨h.1,?_⟩
 rcases h.2 with h2 | ⟨g,cap,cur,hv,hg,hh,r⟩
 ·exact .inl h2
 ·exact .inr ⟨g,cap,cur,hv,hg,(hu.block g (hj g (by rw[hv];rfl))).trans hh,r⟩
theorem Aqs {B R k:Nat} {l:List UInt8} {w:World} (h:De B R l k w) (hB:B<=w.heap.size) (hl:l.length<=1000000):Calls Tryz.prog 380 #[.pointer (some ⟨R,0,none⟩)] w (RdQ B R l k (Ub (l.drop k)) (fun c w' v=>Aak w.heap.size c w' v) w):=by
 have S0:=Avp (DSt.start h hB #[.slice none 0 0,.slice none 0 0] 138)
 have HL:=Avp hl
 obtain⟨J,hJ⟩:∃ J,J=w.heap.size:=⟨_,rfl⟩
 have Z0:=Avp (show(w.alloc (.cells #[.slice none 0 0,.slice none 0 0] 138)).heap.size=w.heap.size+1 by simp)
 rw[<-hJ] at S0
 have EJ:=Avp hJ
 have C1:=Avp (U7 S0.out.rd S0.out.base hl)
 clear h hB hJ hl
 unfold RdQ Ub
 unfold RdQ at C1
 cases h1:Nm (l.drop k) with
 | none=>
  rw[h1] at C1
  simp only at C1 ⊢
  go_enter Tryz.func380,Tryz.ntmps380
  go_wp2_with fail
  refine C1.out.mono ?_
  rintro _ w1 ⟨hw1,rfl⟩
  exact⟨rfl,S0.out.wr.trans hw1 (.inl rfl),rfl⟩
 | some q=>
  obtain⟨vl,u⟩:=q
  rw[h1] at C1
  simp only at C1 ⊢
  rw[Cp]
  clear h1
  cases h2:Nm (l.drop (k+u)) with
  | none=>
   simp only
   go_enter Tryz.func380,Tryz.ntmps380
   go_wp2_with fail
   rw[<-EJ.out]
   refine C1.out.mono ?_
   rintro _ w1 ⟨hw1,⟨v1,rfl,hv1⟩,hr1,hle⟩
   obtain⟨A,ca,rfl,_⟩:=Row.dots hv1
   have S1:=Avp (S0.out.step hw1 hr1)
   have V1:=Avp hv1;have HLE:=Avp hle
   have hby:Below w1.heap.size w1 (w1.alloc (.cells #[.slice A vl.length ca,.slice none 0 0] 138)):=(Below.refl _ _).alloc (Nat.le_refl _) _
   have Y1:=Avp (Bx.new w1 #[.slice A vl.length ca,.slice none 0 0] 138)
   have S2:=Avp (S1.out.mono hby)
   have V2:=Avp (V1.out.mono hby)
   have C2:=Avp (U7 S2.out.rd S2.out.base HL.out)
   have SY:=Avp (show J<w1.heap.size from S1.out.bx.lt)
   unfold RdQ at C2
   rw[h2] at C2
   simp only at C2
   clear hw1 hv1 hr1 hle hby C1 h2
   go_wp2_with fail
   refine C2.out.mono ?_
   rintro _ w2 ⟨hw2,rfl⟩
   exact⟨rfl,S2.out.wr.trans hw2 (.inl rfl),rfl⟩
  | some q=>
   obtain⟨cl,x⟩:=q
   simp only
   cases hcc:Ic (vl,cl) with
   | false=>
    simp only[Bool.false_eq_true,if_false]
    go_enter Tryz.func380,Tryz.ntmps380
    go_wp2_with fail
    rw[<-EJ.out]
    refine C1.out.mono ?_
    rintro _ w1 ⟨hw1,⟨v1,rfl,hv1⟩,hr1,hle⟩
    obtain⟨A,ca,rfl,_⟩:=Row.dots hv1
    have S1:=Avp (S0.out.step hw1 hr1)
    have V1:=Avp hv1;have HLE:=Avp hle
    have hby:Below w1.heap.size w1 (w1.alloc (.cells #[.slice A vl.length ca,.slice none 0 0] 138)):=(Below.refl _ _).alloc (Nat.le_refl _) _
    have Y1:=Avp (Bx.new w1 #[.slice A vl.length ca,.slice none 0 0] 138)
    have S2:=Avp (S1.out.mono hby)
    have V2:=Avp (V1.out.mono hby)
    have C2:=Avp (U7 S2.out.rd S2.out.base HL.out)
    have SY:=Avp (show J<w1.heap.size from S1.out.bx.lt)
    unfold RdQ at C2
    rw[h2] at C2
    simp only at C2
    clear hw1 hv1 hr1 hle hby C1 h2
    go_wp2_with fail
    refine C2.out.mono ?_
    rintro _ w2 ⟨hw2,⟨v2,rfl,hv2⟩,hr2,hle2⟩
    obtain⟨A2,ca2,rfl,_⟩:=Row.dots hv2
    have hRB:R<w.heap.size:=by have:=S0.out.rd.lt;have:=S0.out.hB;omega
    have S3:=Avp (S2.out.step hw2 hr2)
    have V3:=Avp (V2.out.wrote hw2 (by have:=Z0.out;omega))
    have Y3:=Avp (Y1.out.wrote hw2 (by have:=SY.out;have:=EJ.out;omega) (by simp))
    obtain⟨Y,hYe⟩:∃ Y,Y=w1.heap.size:=⟨_,rfl⟩
    rw[<-hYe] at Y3 SY ⊢
    have EY:=Avp hYe
    have N2:=Avp hv2;have HLE2:=Avp hle2
    have y0:=Y3.out.cell 0 rfl;have y1:=Y3.out.cell 1 rfl;have yf:=Y3.out.fr 1 (by simp)
    have N3:=Avp (show w1.heap.size+1<=w2.heap.size by have:=hw2.size;simp at this;omega)
    have UY:=Avp (Iw (w:=w2) Y 1 (.slice A2 cl.length ca2))
    have V4:=Avp (V3.out.upd UY.out (fun q hq=>by have:=(World.ownsRow.lt V1.out q hq).2;have:=EY.out;omega))
    have N4:=Avp (N2.out.upd UY.out (fun q hq=>by have h5:=Row.own _ N2.out q hq;have h6:=EY.out;rw[World.size_alloc] at h5;omega))
    have CC:=Avp (Q8 _ _ _ _ _ _ (vl,cl) _ ⟨Row.asDots' V4.out,Row.asDots' N4.out⟩)
    have S4:=Avp (show DSt B R J w l (k+u+x) _ _ from⟨S3.out.wr.le (UY.out.below (by have:=S1.out.wr.size;have:=EY.out;omega)),S3.out.rd.keep (UY.out.below (by have:=S1.out.base;have:=EY.out;omega)) S3.out.base,UY.out.bx S3.out.bx (by have:=SY.out;omega),S3.out.hB,S3.out.hJ⟩)
    have Y4:=Avp (show Bx (w2.setCell ⟨Y,1,none⟩ (.slice A2 cl.length ca2)) Y [.slice A vl.length ca,.slice A2 cl.length ca2] from⟨fun j v hj=>by
     rw[Nat.zero_add]
     match j,hj with
     | 0,hj=>cases hj;exact Cs (by simp) y0
     | 1,hj=>cases hj;exact Ca y1
     | j+2,hj=>exact absurd (List.getElem?_eq_some_iff.1 hj).1 (by simp),fun j hj=>by
     rw[Nat.zero_add]
     have hj2:j=0∨j=1:=by simp at hj;omega
     rcases hj2 with rfl | rfl
     ·exact⟨by rw[Cs (by simp) y0];rfl,(World.frozen?_setCell _ _ _ _).trans (Y3.out.fr 0 (by simp))⟩
     ·exact⟨by rw[Ca y1];rfl,(World.frozen?_setCell _ _ _ _).trans yf⟩,by rw[UY.out.size];exact Y3.out.lt⟩)
    rw[hcc] at CC
    clear hw2 hv2 hr2 hle2 hYe C2 hRB hcc
    go_wp2_with fail
    refine CC.out.mono ?_
    rintro _ w4 ⟨_,rfl,hb4,rfl⟩
    have S5:=Avp (S4.out.mono hb4)
    clear hb4
    go_wp2
    exact⟨rfl,S5.out.wr,rfl⟩
   | true=>
    simp only[if_true]
    go_enter Tryz.func380,Tryz.ntmps380
    go_wp2_with fail
    rw[<-EJ.out]
    refine C1.out.mono ?_
    rintro _ w1 ⟨hw1,⟨v1,rfl,hv1⟩,hr1,hle⟩
    obtain⟨A,ca,rfl,_⟩:=Row.dots hv1
    have S1:=Avp (S0.out.step hw1 hr1)
    have V1:=Avp hv1;have HLE:=Avp hle
    have hby:Below w1.heap.size w1 (w1.alloc (.cells #[.slice A vl.length ca,.slice none 0 0] 138)):=(Below.refl _ _).alloc (Nat.le_refl _) _
    have Y1:=Avp (Bx.new w1 #[.slice A vl.length ca,.slice none 0 0] 138)
    have S2:=Avp (S1.out.mono hby)
    have V2:=Avp (V1.out.mono hby)
    have C2:=Avp (U7 S2.out.rd S2.out.base HL.out)
    have SY:=Avp (show J<w1.heap.size from S1.out.bx.lt)
    unfold RdQ at C2
    rw[h2] at C2
    simp only at C2
    clear hw1 hv1 hr1 hle hby C1 h2
    go_wp2_with fail
    refine C2.out.mono ?_
    rintro _ w2 ⟨hw2,⟨v2,rfl,hv2⟩,hr2,hle2⟩
    obtain⟨A2,ca2,rfl,_⟩:=Row.dots hv2
    have hRB:R<w.heap.size:=by have:=S0.out.rd.lt;have:=S0.out.hB;omega
    have S3:=Avp (S2.out.step hw2 hr2)
    have V3:=Avp (V2.out.wrote hw2 (by have:=Z0.out;omega))
    have Y3:=Avp (Y1.out.wrote hw2 (by have:=SY.out;have:=EJ.out;omega) (by simp))
    obtain⟨Y,hYe⟩:∃ Y,Y=w1.heap.size:=⟨_,rfl⟩
    rw[<-hYe] at Y3 SY ⊢
    have EY:=Avp hYe
    have N2:=Avp hv2;have HLE2:=Avp hle2
    have y0:=Y3.out.cell 0 rfl;have y1:=Y3.out.cell 1 rfl;have yf:=Y3.out.fr 1 (by simp)
    have N3:=Avp (show w1.heap.size+1<=w2.heap.size by have:=hw2.size;simp at this;omega)
    have UY:=Avp (Iw (w:=w2) Y 1 (.slice A2 cl.length ca2))
    have V4:=Avp (V3.out.upd UY.out (fun q hq=>by have:=(World.ownsRow.lt V1.out q hq).2;have:=EY.out;omega))
    have N4:=Avp (N2.out.upd UY.out (fun q hq=>by have h5:=Row.own _ N2.out q hq;have h6:=EY.out;rw[World.size_alloc] at h5;omega))
    have CC:=Avp (Q8 _ _ _ _ _ _ (vl,cl) _ ⟨Row.asDots' V4.out,Row.asDots' N4.out⟩)
    have S4:=Avp (show DSt B R J w l (k+u+x) _ _ from⟨S3.out.wr.le (UY.out.below (by have:=S1.out.wr.size;have:=EY.out;omega)),S3.out.rd.keep (UY.out.below (by have:=S1.out.base;have:=EY.out;omega)) S3.out.base,UY.out.bx S3.out.bx (by have:=SY.out;omega),S3.out.hB,S3.out.hJ⟩)
    have Y4:=Avp (show Bx (w2.setCell ⟨Y,1,none⟩ (.slice A2 cl.length ca2)) Y [.slice A vl.length ca,.slice A2 cl.length ca2] from⟨fun j v hj=>by
     rw[Nat.zero_add]
     match j,hj with
     | 0,hj=>cases hj;exact Cs (by simp) y0
     | 1,hj=>cases hj;exact Ca y1
     | j+2,hj=>exact absurd (List.getElem?_eq_some_iff.1 hj).1 (by simp),fun j hj=>by
     rw[Nat.zero_add]
     have hj2:j=0∨j=1:=by simp at hj;omega
     rcases hj2 with rfl | rfl
     ·exact⟨by rw[Cs (by simp) y0];rfl,(World.frozen?_setCell _ _ _ _).trans (Y3.out.fr 0 (by simp))⟩
     ·exact⟨by rw[Ca y1];rfl,(World.frozen?_setCell _ _ _ _).trans yf⟩,by rw[UY.out.size];exact Y3.out.lt⟩)
    rw[hcc] at CC
    clear hw2 hv2 hr2 hle2 hYe C2 hRB hcc
    go_wp2_with fail
    refine CC.out.mono ?_
    rintro _ w4 ⟨_,rfl,hb4,rfl⟩
    have S5:=Avp (S4.out.mono hb4);have Y5:=Avp (Y4.out.mono hb4);have V5:=Avp (V4.out.mono hb4);have N5:=Avp (N4.out.mono hb4)
    have z0:=Y5.out.cell 0 rfl;have z1:=Y5.out.cell 1 rfl
    have N6:=Avp (show w2.heap.size<=w4.heap.size by have h5:=hb4.size;rw[World.size_setCell] at h5;exact h5)
    clear hb4
    go_wp2_with ((with_reducible refine Ai J ?_ ?_);(next=>rfl))
    unfold Az
    refine Af (J:=J) rfl rfl rfl rfl rfl S5.out.bx (show(Tryz.prog.info? 138).map (·.size)=some 2 by kernel_rfl) rfl (by simp[Value.oneCell']) ?_
    intro w9 hx9 hu9
    have X9:=Avp hx9;have U9:=Avp hu9
    clear hx9 hu9
    go_wp2
    refine bodyPost_ret (v:=.agg #[.slice A vl.length ca,.slice A2 cl.length ca2]) ?_ rfl ?_
    ·exact D5 Tryz.results380 rfl X9.out Tryz.underlying138 rfl (show(Tryz.prog.info? 138).map (·.size)=some 2 by kernel_rfl)
    obtain⟨k1,k2⟩:=S5.out.end_ U9.out
    have hJ:=EJ.out;have hZ:=Z0.out;have hSY:=SY.out;have hN:=N3.out;have hY:=EY.out
    have V6:Row w9 w.heap.size (.slice A vl.length ca) vl:=Row.low (V5.out.upd U9.out (fun q hq=>by have h5:=Row.own _ V5.out q hq;omega)) (by omega)
    have N7:Row w9 w.heap.size (.slice A2 cl.length ca2) cl:=Row.low (N5.out.upd U9.out (fun q hq=>by have h5:=Row.own _ N5.out q hq;rw[World.size_alloc] at h5;omega)) (by rw[World.size_alloc];omega)
    exact⟨k1,⟨_,rfl,A,_,ca,A2,_,ca2,rfl,V6,N7⟩,by rw[<-Nat.add_assoc];exact k2,by have:=HLE2.out;omega⟩
end Go.Proofs.YthnbhjpahlceeaaGreatDoor
namespace Go.Proofs.YthnbhjpahlceeaaGreatDoor
open Go.RowKit Go.Sort
def Ju (w w':World):Prop:=∃ (q:Nat) (os:Array Obj),w'=grow (w.drewN q) os
theorem Ju.refl (w:World):Ju w w:=⟨0,#[],by simp[World.drewN]⟩
theorem Ju.alloc {w w':World} (h:Ju w w') (o:Obj):Ju w (w'.alloc o):=by
 obtain⟨q,os,rfl⟩:=h
 exact⟨q,os ++ #[o],by rw[alloc_eq_grow,grow_grow]⟩
theorem Ju.drew {w w':World} (h:Ju w w'):Ju w w'.drew:=by
 obtain⟨q,os,rfl⟩:=h
 exact⟨q+1,os,rfl⟩
theorem Ar8 (a b x y:Int) (w:World):Calls Tryz.prog 437 #[.agg #[.int .i64 a,.int .i64 b],.agg #[.int .i64 x,.int .i64 y]] w fun e w'=>e = .returned (.int .i64 (Ee a x))∧Ju w w':=by
 have c1:=fun w=>Ge a x w
 generalize Ee a x=r at *
 go_enter Tryz.func437,Tryz.ntmps437
 go_wp2_with (go_at_call 398;((with_reducible refine(c1 _).mono ?_);rintro e w' ⟨rfl,rfl⟩))
 go_ret
 exact⟨rfl,((Ju.refl w).alloc _).alloc _⟩
theorem Tv (a b x y:Int) (w:World):Calls Tryz.prog 353 #[.agg #[.int .i64 a,.int .i64 b],.agg #[.int .i64 x,.int .i64 y]] w fun e w'=>e = .returned (.int .i64 (Gv (a,b) (x,y)))∧Ju w w':=by
 have e:=Adl (a,b) (x,y)
 generalize Gv (a,b) (x,y)=r at *
 generalize hp:Ee (a,b).2 (x,y).2=p at *
 generalize hq:Ee (a,b).1 (x,y).1=q at *
 have E:=Avp e;clear e
 have c1:=fun w=>Ge b y w
 have c2:=fun w=>Ge a x w
 simp only at hp hq
 rw[hp] at c1;rw[hq] at c2
 clear hp hq
 go_enter Tryz.func353,Tryz.ntmps353
 go_wp2_with fail
 go_region_held3 (fun w'=>w'.cell? ⟨w.heap.size,0,none⟩=some (.int .i64 a)∧w'.cell? ⟨w.heap.size,1,none⟩=some (.int .i64 b)∧w'.cell? ⟨w.heap.size+1,0,none⟩=some (.int .i64 x)∧w'.cell? ⟨w.heap.size+1,1,none⟩=some (.int .i64 y)) (simp[go_sem,World.cell?_alloc_past])
  (first
   | (go_at_call 398;((with_reducible refine(c1 _).mono ?_);rintro e w' ⟨rfl,rfl⟩))
   | (go_at_call 398;((with_reducible refine(c2 _).mono ?_);rintro e w' ⟨rfl,rfl⟩))
   | (go_at_call 396;((with_reducible refine(Ate p q _ _ (by simp[go_sem]) (by simp[go_sem])).mono ?_);rintro e w' ⟨rfl,rfl⟩)))
 go_wp2
 go_ret
 rw[E.out]
 exact⟨rfl,((((Ju.refl w).alloc _).alloc _).alloc _).drew⟩
end Go.Proofs.YthnbhjpahlceeaaGreatDoor
namespace Go.Proofs
open Go.Shelf
def Tryz.sortD_ren:Go.Shelf.Ren:=⟨fun | 6=>393 | 15=>218 | 14=>430 | 28=>298 | 29=>299 | 20=>453 | 21=>454 | 22=>455 | 23=>456 | 24=>457 | 25=>458 | 26=>459 | 27=>460 | 46=>467 | 47=>374 | 48=>375 | 49=>468 | 50=>469 | 57=>472 | n=>n,fun | 22=>135 | 24=>224 | 25=>423 | 3=>3 | 39=>233 | 0=>0 | 53=>132 | 55=>169 | 4=>4 | 46=>376 | 45=>375 | 50=>162 | 5=>5 | 9=>9 | 66=>436 | 70=>439 | 76=>475 | 77=>476 | n=>n,fun | n=>n⟩
theorem Tryz.sortD:Go.Proofs.SlLaysF0.n6 Tryz.prog Tryz.sortD_ren:={
 mixed:=by kernel_rfl
 f6:=⟨Tryz.f393.name,by decide,Tryz.func393.trans (congrArg some (by kernel_rfl))⟩
 f14:=⟨Tryz.f430.name,by decide,Tryz.func430.trans (congrArg some (by kernel_rfl))⟩
 f15:=Tryz.func218.trans (congrArg some (by kernel_rfl))
 f20:=⟨Tryz.f453.name,by decide,Tryz.func453.trans (congrArg some (by kernel_rfl))⟩
 f21:=⟨Tryz.f454.name,by decide,Tryz.func454.trans (congrArg some (by kernel_rfl))⟩
 f22:=⟨Tryz.f455.name,by decide,Tryz.func455.trans (congrArg some (by kernel_rfl))⟩
 f23:=⟨Tryz.f456.name,by decide,Tryz.func456.trans (congrArg some (by kernel_rfl))⟩
 f24:=⟨Tryz.f457.name,by decide,Tryz.func457.trans (congrArg some (by kernel_rfl))⟩
 f25:=⟨Tryz.f458.name,by decide,Tryz.func458.trans (congrArg some (by kernel_rfl))⟩
 f26:=⟨Tryz.f459.name,by decide,Tryz.func459.trans (congrArg some (by kernel_rfl))⟩
 f27:=⟨Tryz.f460.name,by decide,Tryz.func460.trans (congrArg some (by kernel_rfl))⟩
 f28:=Tryz.func298.trans (congrArg some (by kernel_rfl))
 f29:=Tryz.func299.trans (congrArg some (by kernel_rfl))
 f46:=⟨Tryz.f467.name,by decide,Tryz.func467.trans (congrArg some (by kernel_rfl))⟩
 f47:=Tryz.func374.trans (congrArg some (by kernel_rfl))
 f48:=Tryz.func375.trans (congrArg some (by kernel_rfl))
 f49:=⟨Tryz.f468.name,by decide,Tryz.func468.trans (congrArg some (by kernel_rfl))⟩
 f50:=⟨Tryz.f469.name,by decide,Tryz.func469.trans (congrArg some (by kernel_rfl))⟩
 f57:=⟨Tryz.f472.name,by decide,Tryz.func472.trans (congrArg some (by kernel_rfl))⟩
 t0:=Tryz.underlying0
 a0:=Tryz.isAgg0
 z0:=Tryz.sizeOf0
 v0:=Tryz.zeroValue0
 t3:=Tryz.underlying3
 a3:=Tryz.isAgg3
 z3:=Tryz.sizeOf3
 v3:=Tryz.zeroValue3
 t4:=Tryz.underlying4
 a4:=Tryz.isAgg4
 z4:=Tryz.sizeOf4
 v4:=Tryz.zeroValue4
 t5:=Tryz.underlying5
 a5:=Tryz.isAgg5
 z5:=Tryz.sizeOf5
 v5:=Tryz.zeroValue5
 t9:=Tryz.underlying9
 a9:=Tryz.isAgg9
 z9:=Tryz.sizeOf9
 v9:=Tryz.zeroValue9
 t22:=Tryz.underlying135
 a22:=Tryz.isAgg135
 z22:=Tryz.sizeOf135
 v22:=Tryz.zeroValue135
 t25:=Tryz.underlying423
 a25:=Tryz.isAgg423
 z25:=Tryz.sizeOf423
 v25:=Tryz.zeroValue423
 t39:=Tryz.underlying233
 a39:=Tryz.isAgg233
 z39:=Tryz.sizeOf233
 v39:=Tryz.zeroValue233
 t45:=Tryz.underlying375
 a45:=Tryz.isAgg375
 z45:=Tryz.sizeOf375
 v45:=Tryz.zeroValue375
 t46:=Tryz.underlying376
 a46:=Tryz.isAgg376
 z46:=Tryz.sizeOf376
 v46:=Tryz.zeroValue376
 t50:=Tryz.underlying162
 a50:=Tryz.isAgg162
 z50:=Tryz.sizeOf162
 v50:=Tryz.zeroValue162
 t53:=Tryz.underlying132
 a53:=Tryz.isAgg132
 z53:=Tryz.sizeOf132
 v53:=Tryz.zeroValue132
 t55:=Tryz.underlying169
 a55:=Tryz.isAgg169
 z55:=Tryz.sizeOf169
 v55:=Tryz.zeroValue169
 t66:=Tryz.underlying436
 a66:=Tryz.isAgg436
 z66:=Tryz.sizeOf436
 v66:=Tryz.zeroValue436
 t70:=Tryz.underlying439
 a70:=Tryz.isAgg439
 z70:=Tryz.sizeOf439
 v70:=Tryz.zeroValue439
 t76:=Tryz.underlying475
 a76:=Tryz.isAgg475
 z76:=Tryz.sizeOf475
 v76:=Tryz.zeroValue475
 t77:=Tryz.underlying476
 a77:=Tryz.isAgg476
 z77:=Tryz.sizeOf476
 v77:=Tryz.zeroValue476 }
end Go.Proofs
namespace Go.Proofs.YthnbhjpahlceeaaGreatDoor
open Go.RowKit Go.Sort
def Jw (d:Dot):List Value:=[.int .i64 d.1,.int .i64 d.2]
theorem Oq (l:List Dot):flatK Jw 2 l.toArray=(Bv l).toArray:=by
 apply Array.ext
 ·simp[Bn]
 ·intro j h1 h2
  have hj:j<l.length*2:=by simpa using h1
  have hi:j / 2<l.length:=by omega
  obtain⟨g1,g2⟩:=Fp l (j / 2) l[j / 2] (List.getElem?_eq_getElem hi)
  have e:(flatK Jw 2 l.toArray)[j]=(flatK Jw 2 l.toArray)[j]!:=(getElem!_pos _ j h1).symm
  rw[e,get_flatK _ _ _ _ (by simpa using hj)]
  have e2:l.toArray[j / 2]! = l[j / 2]:=by rw[getElem!_pos _ _ (by simpa using hi)];simp
  rw[e2]
  have e3:(Bv l).toArray[j]=(Bv l)[j]'(by simpa [Bn] using hj):=by simp
  rw[e3]
  rcases Nat.mod_two_eq_zero_or_one j with hm | hm
  ·have ej:j / 2*2=j:=by omega
   rw[ej] at g1
   rw[hm]
   have:=(List.getElem?_eq_some_iff.1 g1).2
   rw[this];rfl
  ·have ej:j / 2*2+1=j:=by omega
   rw[ej] at g2
   rw[hm]
   have:=(List.getElem?_eq_some_iff.1 g2).2
   rw[this];rfl
section
variable {w:World} {B g cap:Nat} {l l':List Dot}
theorem Row.holds (h:Row w B (.slice (some ⟨g,0,none⟩) l.length cap) l):HoldsK Jw 2 w g 0 l.toArray∧g<w.heap.size:=by
 rcases h.2 with⟨h2,_⟩ | ⟨g',cap',cur,hv,hg,hh,hn,hm,hs,ht⟩
 ·cases h2
 ·cases hv
  refine⟨fun j hj=>?_,(Array.getElem?_eq_some_iff.1 hh).1⟩
  rw[Oq] at hj ⊢
  have hj':j<(Bv l).length:=by simpa using hj
  rw[cell_of_row w g _ cur _ (0,0) hh,frozen_of_row w g _ cur _ hh]
  obtain⟨u,e2⟩:∃ u,(Bv l)[j]?=some u:=⟨_,List.getElem?_eq_getElem hj'⟩
  have e:(Bv l).toArray[j]! = u:=by
   rw[getElem!_pos (Bv l).toArray j hj]
   have:=(List.getElem?_eq_some_iff.1 e2).2
   simpa using this
  rw[e]
  rw[<-ht,List.getElem?_take] at e2
  split at e2
  ·exact⟨by simpa using e2,rfl⟩
  ·cases e2
theorem Row.resorted (h:Row w B (.slice (some ⟨g,0,none⟩) l.length cap) l) (hl:l'.length=l.length) (n:Nat) (os:Array Obj):Row (sortWorldK Jw 2 w g 0 n l'.toArray os) B (.slice (some ⟨g,0,none⟩) l.length cap) l'∧Below B w (sortWorldK Jw 2 w g 0 n l'.toArray os):=by
 rcases h.2 with⟨h2,_⟩ | ⟨g',cap',cur,hv,hg,hh,hn,hm,hs,ht⟩
 ·cases h2
 ·cases hv
  have hgz:g<w.heap.size:=(Array.getElem?_eq_some_iff.1 hh).1
  have hblock:∀ k,k<w.heap.size->(sortWorldK Jw 2 w g 0 n l'.toArray os).heap[k]?=(w.heap.modify g (onCells (putCells id 0 (flatK Jw 2 l'.toArray))))[k]?:=by
   intro k hk
   show((w.heap.modify g (onCells (putCells id 0 (flatK Jw 2 l'.toArray))))++os)[k]?=_
   rw[Array.getElem?_append,if_pos (by simpa using hk)]
  refine⟨⟨by rw[Bn],.inr ⟨g,cap,putCells id 0 (flatK Jw 2 l'.toArray) cur,by rw[hl],hg,?_,by rw[hl];exact hn,hm,?_,?_⟩⟩,⟨rfl,rfl,rfl,?_,fun k hk=>?_⟩⟩
  ·rw[hblock g hgz,Array.getElem?_modify,if_pos rfl,hh];rfl
  ·simpa [putCells] using hs
  ·rw[Oq]
   apply List.ext_getElem?
   intro j
   rw[List.getElem?_take]
   by_cases hj:j<l'.length*2
   ·rw[if_pos hj]
    have hjc:j<cur.size:=by rw[hs];have:=Nat.mul_le_mul_right 2 hn;omega
    have hjd:j<(Bv l').length:=by rw[Bn];exact hj
    simp[putCells,hjc,hjd]
   ·rw[if_neg hj,List.getElem?_eq_none (by rw[Bn];omega)]
  ·show _<=((w.heap.modify g _)++os).size
   simp
  ·rw[hblock k (by omega),Array.getElem?_modify,if_neg (by omega)]
end
end Go.Proofs.YthnbhjpahlceeaaGreatDoor
namespace Go.Proofs.YthnbhjpahlceeaaGreatDoor
open Go.RowKit
theorem Sk (x y:Dot):ltOf Gv x y=Bp x y:=by
 unfold ltOf
 cases h:Bp x y with
 | true=>rw[decide_eq_true_iff];exact Ko.2 h
 | false=>rw[decide_eq_false_iff_not];intro h2;rw[Ko,h] at h2;cases h2
theorem swoDot:Go.Sort.SWO (ltOf Gv) where
 irrefl x:=by rw[Sk];cases h:Bp x x with | false=>rfl | true=>rw[Dj] at h;omega
 trans x y z h1 h2:=by rw[Sk,Dj] at *;omega
 ntrans x y z h1 h2:=by
  rw[Sk] at *
  cases h:Bp x z with
  | false=>rfl
  | true=>
   have n1:¬Bp x y=true:=by rw[h1];simp
   have n2:¬Bp y z=true:=by rw[h2];simp
   rw[Dj] at h n1 n2;omega
theorem Auh (blk off size:Nat) (w:World):CmpLays Tryz.prog 353 #[] Jw 2 Gv blk off size w:=fun _ _ _ _ x y=>Tv x.1 x.2 y.1 y.2 _
def U4 (a b:Dot):Int:=Ee a.1 b.1
theorem Vs (x y:Dot):ltOf U4 x y=decide (x.1<y.1):=by
 unfold ltOf U4 Ee
 by_cases h1:x.1<y.1
 ·simp[h1]
 ·by_cases h2:y.1<x.1 <;> simp[h1,h2]
theorem Ahr:Go.Sort.SWO (ltOf U4) where
 irrefl x:=by rw[Vs];simp
 trans x y z h1 h2:=by rw[Vs] at *;simp at *;omega
 ntrans x y z h1 h2:=by rw[Vs] at *;simp at *;omega
theorem Asd (blk off size:Nat) (w:World):CmpLays Tryz.prog 437 #[] Jw 2 U4 blk off size w:=fun _ _ _ _ x y=>Ar8 x.1 x.2 y.1 y.2 _
theorem Xy (x:Dot):(Jw x).length=2:=rfl
theorem Wk (x:Dot):∀ v∈Jw x,v.oneCell'=true:=by
 intro v hv;simp[Jw] at hv;rcases hv with rfl | rfl <;> rfl
def Md (lt:Dot->Dot->Bool) (l l':List Dot):Prop:=l'.Perm l∧l'.Pairwise (fun a b=>lt b a=false)
theorem Md.of {lt:Dot->Dot->Bool} {l:List Dot} {d:Array Dot} (h1:Go.Sort.PermIn 0 l.toArray.size l.toArray d) (h2:Go.Sort.SortedIn lt 0 l.toArray.size d):Md lt l d.toList:=by
 have hs:d.size=l.length:=by simpa using h1.1
 refine⟨?_,?_⟩
 ·have:=h1.2.2
  rw[Array.extract_eq_self_of_le (by simp[hs]),Array.extract_eq_self_of_le (Nat.le_refl _)] at this
  simpa using this
 ·rw[List.pairwise_iff_getElem]
  intro i j hi hj hij
  have:=h2 i j (Nat.zero_le _) hij (by simp at hj ⊢;omega)
  rw[getElem!_pos d j (by simpa using hj),getElem!_pos d i (by simpa using hi)] at this
  simpa using this
def Sb (B:Nat) (lt:Dot->Dot->Bool) (v:Value) (l:List Dot) (w:World) (e:Ending) (w':World):Prop:=
 e = .returned (.tuple #[])∧Go.RowKit.Below B w w'∧∃ l',Md lt l l'∧Row w' B v l'
theorem Ae3:∀ args w,(callFunc 353 args).run Tryz.prog w = .ok (.enter 353 args) w:=enters_of Tryz.func353 (by kernel_rfl) rfl
theorem Abo:∀ args w,(callFunc 437 args).run Tryz.prog w = .ok (.enter 437 args) w:=enters_of Tryz.func437 (by kernel_rfl) rfl
theorem Agb (B g cap:Nat) (l:List Dot) (w:World) (h:Row w B (.slice (some ⟨g,0,none⟩) l.length cap) l) (hs:Small l.length) :
  Calls Tryz.prog 393 #[.slice (some ⟨g,0,none⟩) l.length cap,.func (.func 353) #[] #[]] w (Sb B Bp (.slice (some ⟨g,0,none⟩) l.length cap) l w):=by
 obtain⟨hh,hg⟩:=Row.holds h
 have hcon:=AnyQ.slices_SortFunc Tryz.sortD 2 Tryz.isAgg224 Tryz.sizeOf224 Jw Xy Wk Gv swoDot 353 #[] g 0 cap l.toArray w Ae3 (Auh g 0 _ w) hh hg (by have:=hs.out;simp;omega)
 change Calls Tryz.prog 393 _ _ _ at hcon
 have e:l.toArray.size=l.length:=by simp
 rw[e] at hcon
 refine hcon.mono ?_
 rintro e w' ⟨rfl,d',n,os,h1,h2,rfl⟩
 have hl:d'.toList.length=l.length:=by simpa using h1.1
 have hr:=Row.resorted h hl n os
 refine⟨rfl,by simpa using hr.2,d'.toList,?_,by simpa using hr.1⟩
 have hlt:ltOf Gv=Bp:=by funext x y;exact Sk x y
 rw[hlt] at h2
 exact Md.of (by simpa using h1) (by simpa using h2)
def Ph (d:Dot):List Dot->Nat
 | []=>0
 | a::t=>if Bp a d then Ph d t+1 else 0
def Fo (s:List Dot) (d:Dot):List Dot:=if Vo d s then s else s.take (Ph d s)++d::s.drop (Ph d s)
theorem Adt (d:Dot):∀ s:List Dot,Ph d s<=s.length
 | []=>Nat.le_refl _
 | a::t=>by
  have:=Adt d t
  simp only[Ph,List.length_cons];split <;> omega
def Ds (d:Dot):Bool->List Dot->List Dot
 | done,[]=>if done then [] else [d]
 | done,a::t=>(if !done&&decide (d.1<=a.1) then [d] else [])++((if a.1 != d.1 then [a] else [])++Ds d (done||decide (d.1<=a.1)) t)
def Cq (v:List Dot) (d:Dot):List Dot:=if I5 v d then v else Ds d false v
theorem Bc.one (w:World) (x y:Int):Bc (w.alloc (.cells #[.int .i64 x,.int .i64 y] 224)) (some ⟨w.heap.size,0,none⟩) 1 1 [(x,y)]:=
 ⟨rfl,Nat.le_refl _,by unfold maxLen;omega,(fun e=>nomatch e),fun j e hj=>by
  have:j=0:=by have:=(List.getElem?_eq_some_iff.1 hj).1;simpa using this
  subst this
  simp at hj;subst hj
  exact⟨w.heap.size,0,rfl,by simp,by simp[go_sem],by simp[go_sem]⟩⟩
def Off (p:Nat->Prop) (A:Option Addr) (l:List Dot):Prop:=l≠[]->∀ a,A=some a->p a.block
theorem Bc.lt {w:World} {A:Option Addr} {n c:Nat} {l:List Dot} (h:Bc w A n c l) (hl:l≠[]):∀ a,A=some a->a.block<w.heap.size:=by
 intro a ha
 cases l with
 | nil=>exact absurd rfl hl
 | cons d t=>
  obtain⟨b,o,e,hb,_⟩:=h.cell 0 d rfl
  rw[ha] at e;cases e;exact hb
def Be (a b:List Dot):List Dot:=b.foldl Fo (a.foldl Fo [])
def Qz (c:Ctx) (l:List Dot):List Dot:=l.foldl (fun acc d=>if Kf c d then acc else Fo acc d) []
theorem Vd (s:List Dot) (d:Dot):(Fo s d).length<=s.length+1:=by
 unfold Fo;split
 ·omega
 ·have:=Adt d s
  simp[List.length_take,List.length_drop];omega
def Ek (s:Ctx) (d:Dot):Ctx:=if I5 s.1 d then s else if d.2==By s.1 d.1+1 then (Cq s.1 d,s.2) else (s.1,s.2++[d])
def H5 (c:Ctx):Ctx:=c.2.foldl Ek (c.1,[])
def Fe (c:Ctx):Ctx:=if Ic c then c else H5 c
theorem Nk (d:Dot):∀ l:List Dot,Ds d true l=l.filter (fun a=>a.1 != d.1)
 | []=>rfl
 | a::t=>by
  rw[Ds,List.filter_cons]
  simp only[Bool.not_true,Bool.false_and,Bool.true_or,Nk d t]
  by_cases h:a.1=d.1 <;> simp[h]
theorem Et (d a:Dot) (t:List Dot):Ds d false (a::t)=if d.1<=a.1 then d::(a::t).filter (fun a=>a.1 != d.1) else a::Ds d false t:=by
 rw[Ds]
 by_cases h:d.1<=a.1
 ·simp only[h,decide_true,Bool.not_false,Bool.and_true,if_true,Bool.or_true,Nk,List.filter_cons]
  by_cases h2:a.1=d.1 <;> simp[h2]
 ·have h2:a.1≠d.1:=by omega
  simp[h,h2]
theorem J1 (d:Dot):∀ l:List Dot,(Ds d false l).length<=l.length+1
 | []=>by simp[Ds]
 | a::t=>by
  rw[Et]
  have:=J1 d t
  have h2:=List.length_filter_le (fun a:Dot=>a.1 != d.1) (a::t)
  split
  ·simp only[List.length_cons] at *;omega
  ·simp only[List.length_cons];omega
theorem Ie (l:List Dot) (d:Dot):(Cq l d).length<=l.length+1:=by
 unfold Cq;split
 ·omega
 ·exact J1 d l
theorem Le (d:Dot) (hd:Bm d=true):∀ l:List Dot,Ax l=true->Ax (Ds d false l)=true
 | [],_=>by simp[Ds,Ax,hd]
 | a::t,h=>by
  have h':=h
  unfold Ax at h
  rw[List.all_eq_true] at h
  rw[Et]
  split
  ·unfold Ax
   rw[List.all_eq_true]
   intro x hx
   rcases List.mem_cons.1 hx with rfl | hx
   ·exact hd
   ·exact h x ((List.mem_filter.1 hx).1)
  ·have ih:=Le d hd t (by unfold Ax;rw[List.all_eq_true];exact fun x hx=>h x (List.mem_cons_of_mem _ hx))
   unfold Ax at ih ⊢
   rw[List.all_cons,ih,h a List.mem_cons_self];rfl
theorem Lh (d:Dot) (hd:Bm d=true) (l:List Dot) (h:Ax l=true):Ax (Cq l d)=true:=by
 unfold Cq;split
 ·exact h
 ·exact Le d hd l h
theorem Tb (f:Value) (w:World):Calls Tryz.prog 453 #[.slice none 0 0,.int .i64 0,.int .i64 0,f] w fun e w'=>e = .returned (.tuple #[])∧w'=w:=by
 go_enter Tryz.func453,Tryz.ntmps453
 go_wp2
 go_rounds 1
 go_end0
 exact⟨rfl,rfl⟩
theorem Acv (limit:Int) (f:Value) (w:World):Calls Tryz.prog 430 #[.slice none 0 0,.int .i64 0,.int .i64 0,.int .i64 limit,f] w fun e w'=>e = .returned (.tuple #[])∧w'=w:=by
 have F:=Avp (Tb f w)
 go_enter Tryz.func430,Tryz.ntmps430
 go_wp2
 refine wp_loop_rounds 1 ?_
 rw[rounds_succ]
 go_wp2_with (go_at_call 453;((with_reducible refine F.out.mono ?_);rintro e w' ⟨rfl,rfl⟩))
 refine bodyPost_ret (results_none rfl _ _ _) rfl ?_
 exact⟨rfl,rfl⟩
theorem U5 (n:Nat) (w:World) (h:n<=1000000):Calls Tryz.prog 218 #[.int .u64 (n:Int)] w fun e w'=>e = .returned (.int .i64 (Lib.bitLen n:Nat))∧w'=w:=by
 have h:=Any.bits_Len (SlLaysF0.n15.bits { Tryz.sortD with }) (n:Int) w (by omega) (by omega)
 rwa [Int.toNat_natCast] at h
theorem Asg (B:Nat) (v:Value) (l:List Dot) (w:World) (h:Row w B v l) (hs:Small l.length) :
  Calls Tryz.prog 393 #[v,.func (.func 353) #[] #[]] w (Sb B Bp v l w):=by
 have hh:=h
 rcases h.2 with⟨rfl,h0⟩ | ⟨g,cap,cur,rfl,_⟩
 ·have hl:l=[]:=List.eq_nil_of_length_eq_zero h0
  subst hl
  have F1:=Avp (show Calls Tryz.prog 218 #[.int .u64 0] w (fun e w'=>e = .returned (.int .i64 (Lib.bitLen 0:Nat))∧w'=w) from U5 0 w (by omega))
  have F2:=Avp (fun lim=>Acv lim (.func (.func 353) #[] #[]) w)
  have HH:=Avp hh;clear hh h h0 hs
  go_enter Tryz.func393,Tryz.ntmps393
  go_wp2_with (first
   | (go_at_call 218;((with_reducible refine F1.out.mono ?_);rintro e w' ⟨rfl,rfl⟩))
   | (go_at_call 430;((with_reducible refine(F2.out _).mono ?_);rintro e w' ⟨rfl,rfl⟩)))
  go_end0
  exact⟨rfl,Below.refl _ _,[],⟨List.Perm.refl _,List.Pairwise.nil⟩,HH.out⟩
 ·exact Agb B g cap l w hh hs
theorem Ato (B:Nat) (v:Value) (l:List Dot) (w:World) (h:Row w B v l) (hs:Small l.length) :
  Calls Tryz.prog 436 #[v,.func (.func 437) #[] #[]] w (Sb B (ltOf U4) v l w):=by
 have hh:=h
 rcases h.2 with⟨rfl,h0⟩ | ⟨g,cap,cur,rfl,_⟩
 ·have hl:l=[]:=List.eq_nil_of_length_eq_zero h0
  subst hl
  have F1:=Avp (show Calls Tryz.prog 218 #[.int .u64 0] w (fun e w'=>e = .returned (.int .i64 (Lib.bitLen 0:Nat))∧w'=w) from U5 0 w (by omega))
  have F2:=Avp (fun lim=>Acv lim (.func (.func 437) #[] #[]) w)
  have HH:=Avp hh;clear hh h h0 hs
  go_enter Tryz.func436,Tryz.ntmps436
  go_wp2_with (first
   | (go_at_call 218;((with_reducible refine F1.out.mono ?_);rintro e w' ⟨rfl,rfl⟩))
   | (go_at_call 430;((with_reducible refine(F2.out _).mono ?_);rintro e w' ⟨rfl,rfl⟩)))
  go_end0
  exact⟨rfl,Below.refl _ _,[],⟨List.Perm.refl _,List.Pairwise.nil⟩,HH.out⟩
 ·obtain⟨hH,hg⟩:=Row.holds hh
  have hsz:l.length<4611686018427387904:=by have:=hs.out;omega
  have hlim:Lib.bitLen l.length<4611686018427387904:=Nat.lt_of_le_of_lt (Lib.bitLen_le l.length 62 (by omega) (by omega)) (by omega)
  have hp:=AnyQ.pdqsortCmpFunc_all (P:=Tryz.prog) { Tryz.sortD with } 2 Tryz.isAgg224 Tryz.sizeOf224 Jw U4 437 #[] Ahr g 0 cap l.toArray w Abo (Asd g 0 _ w) ⟨Xy,Wk,hH,hg⟩ (l.toArray.size+1) 0 l.toArray.size (Lib.bitLen l.length) l.toArray w (by omega) rfl (SWK.start hH) (Nat.zero_le _) (Nat.le_refl _) (by simpa using hsz) hlim (Or.inl rfl)
  change Calls Tryz.prog 430 _ _ _ at hp
  have e:l.toArray.size=l.length:=by simp
  rw[e] at hp
  replace hp:Calls Tryz.prog 430 #[.slice (some ⟨g,0,none⟩) l.length cap,.int .i64 0,.int .i64 (l.length:Int),.int .i64 (Lib.bitLen l.length:Nat),.func (.func 437) #[] #[]] w _:=hp
  have hl:=U5 l.length w hs.out
  have wr:IntKind.u64.wrap (l.length:Int)=l.length:=by simp[IntKind.wrap,IntKind.bits,IntKind.signed];omega
  have srt:=Go.Sort.pdq_sorts (ltOf U4) Ahr l.toArray 0 l.toArray.size (Lib.bitLen l.toArray.size) true true (Nat.zero_le _) (Nat.le_refl _) (Or.inl rfl)
  rw[e] at srt
  generalize Go.Sort.pdq (ltOf U4) l.toArray 0 l.length (Lib.bitLen l.length) true true=d at hp srt
  have HP:=Avp hp;have HL:=Avp hl;have HH:=Avp hh;have SRT:=Avp srt;have HG:=Avp hg
  clear hp hl hh h srt hH hs hlim e hg
  go_enter Tryz.func436,Tryz.ntmps436
  go_wp2_with (first
   | (go_at_call 218;((with_reducible refine HL.out.mono ?_);rintro e w' ⟨rfl,rfl⟩))
   | (go_at_call 430;((with_reducible refine HP.out.mono ?_);rintro e w' ⟨rfl,n,os,rfl⟩)))
  go_end0
  have hl:d.toList.length=l.length:=by simpa using SRT.out.1.1
  have hr:=Row.resorted HH.out hl n os
  refine⟨rfl,by simpa using hr.2,d.toList,Md.of (by simpa using SRT.out.1) (by simpa using SRT.out.2),by simpa using hr.1⟩
def Jq (acc:List Dot) (d:Dot):List Dot:=if acc.getLast?=some d then acc else acc++[d]
def Ff (l:List Dot):List Dot:=l.foldl Jq []
theorem Rl (l:List Dot) (d:Dot):Ff (l++[d])=Jq (Ff l) d:=by unfold Ff;rw[List.foldl_append];rfl
theorem Aae (acc:List Dot) (d:Dot):(Jq acc d).getLast?=some d:=by
 unfold Jq;split
 ·assumption
 ·simp
theorem Fq {l:List Dot} {j:Nat} {d:Dot} (h:l[j]?=some d):l.take (j+1)=l.take j++[d]:=by
 rw[List.take_add_one,h];rfl
theorem Qh {l:List Dot} {j:Nat} {a b:Dot} (h1:l[j]?=some a) (h2:l[j+1]?=some b):Ff (l.take (j+1+1))=if b=a then Ff (l.take (j+1)) else Ff (l.take (j+1))++[b]:=by
 have e:(Ff (l.take (j+1))).getLast?=some a:=by rw[Fq h1,Rl,Aae]
 rw[Fq h2,Rl,Jq,e]
 by_cases h:b=a
 ·subst h;simp
 ·have h':¬a=b:=fun e=>h e.symm
  simp[h,h']
theorem T3 {l:List Dot} (h:l.length<=1):Ff l=l:=by
 match l,h with
 | [],_=>rfl
 | [a],_=>rfl
section
variable {w:World} {B g cap n:Nat} {l:List Dot}
theorem Rr:∀ (l:List Dot) (k:Nat) (p q:Int),k<l.length->Bv (l.set k (p,q))=((Bv l).set (k*2) (.int .i64 p)).set (k*2+1) (.int .i64 q)
 | [],k,p,q,h=>by simp at h
 | a::t,0,p,q,h=>rfl
 | a::t,k+1,p,q,h=>by
  have:=Rr t k p q (by simpa using h)
  rw[List.set_cons_succ,Ia,this,Ia,show(k+1)*2=k*2+1+1 by omega]
  rfl
theorem Row.put (h:Row w B (.slice (some ⟨g,0,none⟩) n cap) l) {k:Nat} (hk:k<l.length) (p q:Int) :
  Row ((w.setCell ⟨g,k*2,none⟩ (.int .i64 p)).setCell ⟨g,k*2+1,none⟩ (.int .i64 q)) B (.slice (some ⟨g,0,none⟩) n cap) (l.set k (p,q))∧
  Below B w ((w.setCell ⟨g,k*2,none⟩ (.int .i64 p)).setCell ⟨g,k*2+1,none⟩ (.int .i64 q)):=by
 have hB:=Row.from_ h ⟨g,0,none⟩ rfl
 refine⟨?_,((Below.refl _ _).setCell (p:=⟨g,k*2,none⟩) hB _).setCell (p:=⟨g,k*2+1,none⟩) hB _⟩
 obtain⟨A,c,e,hd⟩:=Row.dots h
 have en:n=l.length:=by cases e;rfl
 subst en
 have h1:=(World.ownsRow.stored (cap:=cap) h (k*2) (.int .i64 p)).1
 have h2:=(World.ownsRow.stored (cap:=cap) h1 (k*2+1) (.int .i64 q)).1
 unfold Row
 rw[Rr l k p q hk,List.length_set]
 exact h2
end
theorem Of (w:World) (g:Nat) (cs:Array Value):(w.setRow g cs).heap.size=w.heap.size:=by simp[World.setRow]
theorem _root_.Go.RowKit.Below.setRow_ {B:Nat} {a w:World} (h:Below B a w) (g:Nat) (cs:Array Value) (hB:B<=g):Below B a (w.setRow g cs):=
 h.trans ⟨rfl,rfl,rfl,by rw[Of];exact Nat.le_refl _,fun k hk=>setRow_other w g k cs (by omega)⟩
theorem Li {t:TypeId} (ht:Tryz.prog.underlying t=some (.slice 224)) {w:World} {B g cap:Nat} {l:List Dot} (h:Row w B (.slice (some ⟨g,0,none⟩) l.length cap) l) {k:Nat} (hk:k<=l.length) (ty:TypeId) :
  ∃ w',(Builtin.clear_ #[t] ty #[.slice (G4 (some ⟨g,0,none⟩) cap k) (l.length - k) (cap - k)]).run Tryz.prog w = .ok (.tuple #[]) w'∧Row w' B (.slice (some ⟨g,0,none⟩) k cap) (l.take k)∧Below B w w':=by
 by_cases he:l.length=k
 ·subst he
  refine⟨w,?_,by simpa using h,Below.refl _ _⟩
  rw[Nat.sub_self]
  cases G4 (some ⟨g,0,none⟩) cap l.length <;> simp[Builtin.clear_,run_underlying ht]
 ·obtain⟨i,hi,hz,hsz,hby⟩:=Mh
  have hB:=Row.from_ h ⟨g,0,none⟩ rfl
  rcases h.2 with⟨h',_⟩ | ⟨g',cap',cur,h',hb,hg,hnc,hcm,hcs,htake⟩
  ·cases h'
  ·cases h'
   have hc:¬cap=k:=by omega
   have ea:G4 (some ⟨g,0,none⟩) cap k=some ⟨g,k*2,none⟩:=by unfold G4;rw[if_neg hc];simp[Bz]
   obtain⟨m,hm⟩:∃ m,l.length - k=m+1:=⟨l.length - k - 1,by omega⟩
   have hfit:k*2+0+(Builtin.zeroCells #[.int .i64 0,.int .i64 0] (m+1)).toList.length<=cur.size:=by
    simp[size_zeroCells,hcs];omega
   have hone:∀ v∈(Builtin.zeroCells #[.int .i64 0,.int .i64 0] (m+1)).toList,v.oneCell'=true:=by
    intro v hv
    simp only[Builtin.zeroCells,Array.toList_map,List.mem_map] at hv
    obtain⟨i,_,rfl⟩:=hv
    rcases Nat.mod_two_eq_zero_or_one i with hm | hm <;> (simp only[List.size_toArray,List.length_cons,List.length_nil];rw[hm];rfl)
   have hst:=run_storeCells_at Tryz.prog g (k*2) 224 (Builtin.zeroCells #[.int .i64 0,.int .i64 0] (m+1)).toList 0 cur w hg hfit hone
   generalize hzs:(Builtin.zeroCells #[.int .i64 0,.int .i64 0] (m+1)).toList=zs at *
   refine⟨w.setRow g (cur.toList.take (k*2+0)++zs++cur.toList.drop (k*2+0+zs.length)).toArray,?_,?_,(Below.refl _ w).setRow_ g _ hB⟩
   ·rw[ea,hm]
    have hz':(zeroValue 224).run Tryz.prog w = .ok (.agg #[.int .i64 0,.int .i64 0]) w:=by simp[go_sem]
    simp[Builtin.clear_,run_underlying ht,hz',Value.cells,hzs,hst]
   ·have hhl:=setRow_heap w g cur (cur.toList.take (k*2+0)++zs++cur.toList.drop (k*2+0+zs.length)).toArray 224 (0,0) hg
    have e:(l.take k).length=k:=by rw[List.length_take];omega
    have h2:Bv l=Bv (l.take k)++Bv (l.drop k):=by rw[<-Ln,List.take_append_drop]
    have h3:cur.toList.take (k*2)=Bv (l.take k):=by
     have h4:cur.toList.take (k*2)=(cur.toList.take (l.length*2)).take (k*2):=by rw[List.take_take,Nat.min_eq_left (by omega)]
     rw[h4,htake,h2,List.take_append_of_le_length (by rw[Bn,e];exact Nat.le_refl _),List.take_of_length_le (by rw[Bn,e];exact Nat.le_refl _)]
    refine⟨Bn _,.inr ⟨g,cap,_,by rw[e],hb,hhl,by omega,hcm,?_,?_⟩⟩
    ·have:=hfit;simp[hcs] at this ⊢;omega
    ·rw[e,Nat.add_zero,h3]
     simp only[List.append_assoc]
     rw[List.take_append_of_le_length (by rw[Bn,e];exact Nat.le_refl _),List.take_of_length_le (by rw[Bn,e];exact Nat.le_refl _)]
theorem Acq {x y u v:Int} {a c:Operand} {w:World} (r:Bool) (h:deq (x,y) (u,v)=r):(eqGuard .eql 224 a c (.agg #[.int .i64 x,.int .i64 y]) (.agg #[.int .i64 u,.int .i64 v])).run Tryz.prog w = .ok () w∧(Go.binOp .eql 224 (.agg #[.int .i64 x,.int .i64 y]) (.agg #[.int .i64 u,.int .i64 v])).run Tryz.prog w = .ok (.bool r) w:=⟨by simp[go_sem],by rw[<-h];exact Pa x y u v w⟩
theorem Acn {x y u v:Int} {a c:Operand} {w:World} (r:Bool) (h:deq (x,y) (u,v)=r):(eqGuard .neq 224 a c (.agg #[.int .i64 x,.int .i64 y]) (.agg #[.int .i64 u,.int .i64 v])).run Tryz.prog w = .ok () w∧(Go.binOp .neq 224 (.agg #[.int .i64 x,.int .i64 y]) (.agg #[.int .i64 u,.int .i64 v])).run Tryz.prog w = .ok (.bool !r) w:=⟨by simp[go_sem],by rw[<-h];exact Od x y u v w⟩
def Vz (B:Nat) (l:List Dot) (w:World) (e:Ending) (w':World):Prop:=∃ v,e = .returned v∧Below B w w'∧Row w' B v l
def Ama (w:World) (n:Nat) (l:List Dot) (i:Value) (wr:World):Prop:=
 ∃ k:Nat,i = .int .i64 k∧1<=k∧k<=n∧Below w.heap.size w wr∧Ff (l.take k)=l.take k
def An6 (B:Nat) (v:Value) (w:World) (n k0:Nat) (l:List Dot) (i j:Value) (wr:World):Prop:=
 ∃ (k m:Nat) (l':List Dot),i = .int .i64 k∧j = .int .i64 m∧1<=m∧1<=k∧k<k0+m∧k0+m<=n∧Below B w wr∧Row wr B v l'∧l'.length=l.length∧l'.drop k=l.drop k∧l'.take k=Ff (l.take (k0+m))
theorem Xj {l l':List Dot} {k j:Nat} (h:l'.drop k=l.drop k) (hj:k<=j):l'[j]?=l[j]?:=by
 have h1:(l'.drop k)[j - k]?=(l.drop k)[j - k]?:=by rw[h]
 rw[List.getElem?_drop,List.getElem?_drop,show k+(j - k)=j by omega] at h1
 exact h1
theorem Vb (B g cap:Nat) (l:List Dot) (w:World) (h:Row w B (.slice (some ⟨g,0,none⟩) l.length cap) l) (hs:Small l.length) (h2:2<=l.length) :
  Calls Tryz.prog 394 #[.slice (some ⟨g,0,none⟩) l.length cap] w (Vz B (Ff l) w):=by
 obtain⟨A,c,eA,hd⟩:=Row.dots h
 obtain⟨rfl,rfl⟩:A=some ⟨g,0,none⟩∧c=cap:=by cases eA;exact⟨rfl,rfl⟩
 clear eA
 have hcap:=hd.cap
 have hmx:=hd.big
 have hB:B<=g:=Row.from_ h ⟨g,0,none⟩ rfl
 have hgz:g<w.heap.size:=(Row.holds h).2
 have hs9:=hs.out
 obtain⟨n,hn⟩:∃ n,n=l.length:=⟨_,rfl⟩
 rw[<-hn] at hs h2 hcap hmx hd h hs9 ⊢
 have HD:=Avp hd;have HN:=Avp hn;have H:=Avp h
 clear hd hn h
 go_enter Tryz.func394,Tryz.ntmps394
 go_wp2
 go_loopw [3] (fun i wr=>Ama w n l i wr) (fun i _=>n - (intOf i).toNat)
 case atStart=>exact⟨1,rfl,Nat.le_refl _,by omega,Below.refl _ _,T3 (by rw[List.length_take];omega)⟩
 case round=>
  obtain⟨k,rfl,hk1,hk,hb,hc⟩:=hrel
  have HC:=Avp hc;clear hc
  by_cases hlt:k<n
  ·obtain⟨b,o,p,q,e,hbk,e1,d1,c1,c2⟩:=(HD.out.mono hb).at_ (k:=k) hlt
   obtain⟨rfl,rfl⟩:g=b∧0=o:=by simpa using e
   obtain⟨b',o',u,v,e',hbk',e2,d2,c3,c4⟩:=(HD.out.mono hb).at_ (k:=k - 1) (by omega)
   obtain⟨rfl,rfl⟩:g=b'∧0=o':=by simpa using e'
   obtain⟨j,rfl⟩:∃ j,k=j+1:=⟨k - 1,by omega⟩
   simp only[Nat.add_sub_cancel] at e2 d2 c3 c4
   have hst:=Qh e2 e1
   have C1:=Avp c1;have C2:=Avp c2;have C3:=Avp c3;have C4:=Avp c4;have ST:=Avp hst;have E1:=Avp e1;have E2:=Avp e2
   clear c1 c2 c3 c4 hst e1 e2 d1 d2 e e'
   have hj9:j+1<=9223372036854775807:=by omega
   cases hq:deq (p,q) (u,v) with
   | false=>
    have HQ:=Avp hq;clear hq
    go_wp2_with fail
    refine Am mixed (by kernel_rfl) ?_
    refine Ab.step (Ob.move Aa.free Has.oldIs) ?_
    refine Ab.step (Ob.move Aa.free Has.oldIs) ?_
    refine Ab.step (Ob.indexV Aa.free (Has.new 0 1) (Has.new 1 0) (fun w1=>Cm hlt)) ?_
    refine Ab.step (Ob.loadV Aa.free (Has.new 2 0) (fun w1 hb1=>Bt hb1 C1.out C2.out)) ?_
    refine Ab.step (Ob.move Aa.free Has.oldIs) ?_
    refine Ab.step (Ob.move Aa.free Has.oldIs) ?_
    refine Ab.step (Ob.binV Aa.free (Has.new 5 0) (Has.cst _) (fun w1=>Km hj9)) ?_
    refine Ab.step (Ob.indexV Aa.free (Has.new 4 2) (Has.new 6 0) (fun w1=>Cm (by omega))) ?_
    refine Ab.step (Ob.loadV Aa.free (Has.new 7 0) (fun w1 hb1=>Bt hb1 C3.out C4.out)) ?_
    refine Ab.step (Ob.binV Aa.free (Has.new 3 5) (Has.new 8 0) (fun w1=>Acq false HQ.out)) ?_
    simp only[Ab,Ao,List.map,Bq,List.reverse_cons,List.reverse_nil,List.nil_append,List.cons_append]
    intro wE hE
    iterate 10 (rintro _ rfl)
    simp only[Act.put,List.setIfInBounds_toArray,List.set_cons_zero,List.set_cons_succ]
    go_wp2
    go_roundw
    case rel=>exact⟨j+1+1,by simp,by omega,hlt,hb.le hE,by rw[ST.out,if_neg (Ad0.1 HQ.out),HC.out,Fq E1.out]⟩
    case measure=>simp[intOf];omega
   | true=>
    have HQ:=Avp hq;clear hq
    go_wp2_with fail
    refine Am mixed (by kernel_rfl) ?_
    refine Ab.step (Ob.move Aa.free Has.oldIs) ?_
    refine Ab.step (Ob.move Aa.free Has.oldIs) ?_
    refine Ab.step (Ob.indexV Aa.free (Has.new 0 1) (Has.new 1 0) (fun w1=>Cm hlt)) ?_
    refine Ab.step (Ob.loadV Aa.free (Has.new 2 0) (fun w1 hb1=>Bt hb1 C1.out C2.out)) ?_
    refine Ab.step (Ob.move Aa.free Has.oldIs) ?_
    refine Ab.step (Ob.move Aa.free Has.oldIs) ?_
    refine Ab.step (Ob.binV Aa.free (Has.new 5 0) (Has.cst _) (fun w1=>Km hj9)) ?_
    refine Ab.step (Ob.indexV Aa.free (Has.new 4 2) (Has.new 6 0) (fun w1=>Cm (by omega))) ?_
    refine Ab.step (Ob.loadV Aa.free (Has.new 7 0) (fun w1 hb1=>Bt hb1 C3.out C4.out)) ?_
    refine Ab.step (Ob.binV Aa.free (Has.new 3 5) (Has.new 8 0) (fun w1=>Acq true HQ.out)) ?_
    simp only[Ab,Ao,List.map,Bq,List.reverse_cons,List.reverse_nil,List.nil_append,List.cons_append]
    intro wE hE
    iterate 10 (rintro _ rfl)
    simp only[Act.put,List.setIfInBounds_toArray,List.set_cons_zero,List.set_cons_succ]
    have hrow:=Row.mono (Row.mono H.out hb) hE
    have hbel:=(hb.le hE).mono (B':=B) (by omega)
    have hsl:=fun w=>D6 (w:=w) (A:=some ⟨g,0,none⟩) (n:=n) (c:=c) (k:=j+1) (Nat.le_of_lt hlt) hcap
    have hcut:G4 (some ⟨g,0,none⟩) c (j+1)=some ⟨g,(j+1)*2,none⟩:=by unfold G4;rw[if_neg (by omega)];simp[Bz]
    have hst:Ff (l.take (j+1+1))=l.take (j+1):=by rw[ST.out,if_pos (Mw.1 HQ.out),HC.out]
    have HROW:=Avp hrow;have HBEL:=Avp hbel;have HST:=Avp hst;have HCUT:=Avp hcut
    clear hrow hbel hst hE hb
    rw[hcut] at hsl
    clear hcut C1 C2 C3 C4 HQ ST HC E1 E2
    generalize wE=W at *
    go_wp2
    go_loopw [3,5] (fun i m w2=>An6 B (.slice (some ⟨g,0,none⟩) n c) W n (j+1) l i m w2) (fun _ m _=>n - (intOf m).toNat)
    case atStart=>exact⟨j+1,1,l,rfl,rfl,Nat.le_refl _,by omega,by omega,by omega,Below.refl _ _,HROW.out,rfl,rfl,HST.out.symm⟩
    case round=>
     obtain⟨k,m,l',rfl,rfl,hm1,hk1,hkm,hmn,hb,hr,hl',hdr,htk⟩:=hrel
     have HR:=Avp hr;have HDR:=Avp hdr;have HTK:=Avp htk;have HB2:=Avp hb;have HL':=Avp hl'
     have hd':Bc wr (some ⟨g,0,none⟩) n c l':=by
      obtain⟨A,c',e,hd'⟩:=Row.dots hr
      cases e;exact hd'
     have hds:=hd'.drop (k:=j+1) (Nat.le_of_lt hlt)
     rw[HCUT.out] at hds
     have HDS:=Avp hds
     clear hr hdr htk hb hl' hds hd'
     by_cases hlm:m<n - (j+1)
     ·obtain⟨b,o,p,q,e,hbk,e1,d1,c1,c2⟩:=HDS.out.at_ (k:=m) hlm
      obtain⟨rfl,rfl⟩:g=b∧(j+1)*2=o:=by simpa using e
      obtain⟨m',rfl⟩:∃ m',m=m'+1:=⟨m - 1,by omega⟩
      obtain⟨b',o',u,v,e',hbk',e2,d2,c3,c4⟩:=HDS.out.at_ (k:=m') (by omega)
      obtain⟨rfl,rfl⟩:g=b'∧(j+1)*2=o':=by simpa using e'
      rw[List.getElem?_drop] at e1 e2
      rw[Xj HDR.out (by omega)] at e1 e2
      have hst:Ff (l.take (j+1+(m'+1+1)))=if (p,q)=(u,v) then Ff (l.take (j+1+(m'+1))) else Ff (l.take (j+1+(m'+1)))++[(p,q)]:=Qh (j:=j+1+m') e2 (by simpa [Nat.add_assoc] using e1)
      have hm9:m'+1<=9223372036854775807:=by omega
      have C1:=Avp c1;have C2:=Avp c2;have C3:=Avp c3;have C4:=Avp c4;have ST:=Avp hst
      clear c1 c2 c3 c4 hst e1 e2 d1 d2 e e' hsl
      cases hq:deq (p,q) (u,v) with
      | true=>
       have HQ:=Avp hq;clear hq
       go_wp2_with fail
       refine Am mixed (by kernel_rfl) ?_
       refine Ab.step (Ob.move Aa.free Has.oldIs) ?_
       refine Ab.step (Ob.move Aa.free Has.oldIs) ?_
       refine Ab.step (Ob.indexV Aa.free (Has.new 0 1) (Has.new 1 0) (fun w1=>Cm hlm)) ?_
       refine Ab.step (Ob.loadV Aa.free (Has.new 2 0) (fun w1 hb1=>Bt hb1 C1.out C2.out)) ?_
       refine Ab.step (Ob.move Aa.free Has.oldIs) ?_
       refine Ab.step (Ob.move Aa.free Has.oldIs) ?_
       refine Ab.step (Ob.binV Aa.free (Has.new 5 0) (Has.cst _) (fun w1=>Km hm9)) ?_
       refine Ab.step (Ob.indexV Aa.free (Has.new 4 2) (Has.new 6 0) (fun w1=>Cm (by omega))) ?_
       refine Ab.step (Ob.loadV Aa.free (Has.new 7 0) (fun w1 hb1=>Bt hb1 C3.out C4.out)) ?_
       refine Ab.step (Ob.binV Aa.free (Has.new 3 5) (Has.new 8 0) (fun w1=>Acn true HQ.out)) ?_
       simp only[Ab,Ao,List.map,Bq,List.reverse_cons,List.reverse_nil,List.nil_append,List.cons_append]
       intro wE hE
       iterate 10 (rintro _ rfl)
       simp only[Act.put,List.setIfInBounds_toArray,List.set_cons_zero,List.set_cons_succ]
       go_wp2
       go_roundw
       case rel=>exact⟨k,m'+1+1,l',rfl,by simp,by omega,hk1,by omega,by omega,HB2.out.trans (hE.mono (by have:=HB2.out.size;have:=HBEL.out.size;omega)),Row.mono HR.out hE,HL'.out,HDR.out,by rw[ST.out,if_pos (Mw.1 HQ.out)];exact HTK.out⟩
       case measure=>simp[intOf];omega
      | false=>
       have HQ:=Avp hq;clear hq
       go_wp2_with fail
       refine Am mixed (by kernel_rfl) ?_
       refine Ab.step (Ob.move Aa.free Has.oldIs) ?_
       refine Ab.step (Ob.move Aa.free Has.oldIs) ?_
       refine Ab.step (Ob.indexV Aa.free (Has.new 0 1) (Has.new 1 0) (fun w1=>Cm hlm)) ?_
       refine Ab.step (Ob.loadV Aa.free (Has.new 2 0) (fun w1 hb1=>Bt hb1 C1.out C2.out)) ?_
       refine Ab.step (Ob.move Aa.free Has.oldIs) ?_
       refine Ab.step (Ob.move Aa.free Has.oldIs) ?_
       refine Ab.step (Ob.binV Aa.free (Has.new 5 0) (Has.cst _) (fun w1=>Km hm9)) ?_
       refine Ab.step (Ob.indexV Aa.free (Has.new 4 2) (Has.new 6 0) (fun w1=>Cm (by omega))) ?_
       refine Ab.step (Ob.loadV Aa.free (Has.new 7 0) (fun w1 hb1=>Bt hb1 C3.out C4.out)) ?_
       refine Ab.step (Ob.binV Aa.free (Has.new 3 5) (Has.new 8 0) (fun w1=>Acn false HQ.out)) ?_
       simp only[Ab,Ao,List.map,Bq,List.reverse_cons,List.reverse_nil,List.nil_append,List.cons_append]
       intro wE hE
       iterate 10 (rintro _ rfl)
       simp only[Act.put,List.setIfInBounds_toArray,List.set_cons_zero,List.set_cons_succ]
       have hrE:=Row.mono HR.out hE
       have hkl:k<l'.length:=by rw[HL'.out,<-HN.out];omega
       have hrE':Row wE B (.slice (some ⟨g,0,none⟩) l'.length c) l':=by rw[HL'.out,<-HN.out];exact hrE
       have ix:=fun w=>(Cm (w:=w) (b:=g) (o:=(j+1)*2) (n:=n - (j+1)) (c:=c - (j+1)) hlm)
       have y1:=Ad hE C1.out;have y2:=Ad hE C2.out
       obtain⟨s1,s2⟩:=Fp l' k l'[k] (List.getElem?_eq_getElem hkl)
       have f1:=(World.ownsRow.cellAt hrE' (k*2) (by omega)).trans s1
       have f2:=(World.ownsRow.cellAt hrE' (k*2+1) (by omega)).trans s2
       have z1:=World.ownsRow.frozenAt hrE' (k*2)
       have z2:=World.ownsRow.frozenAt hrE' (k*2+1)
       have hp:=Row.put hrE hkl p q
       have HP:=Avp hp;have HE:=Avp hE;have HKL:=Avp hkl
       clear hrE hrE' hp hE s1 s2 C1 C2 C3 C4
       have hkn:k<n:=by omega
       go_wp2
       go_roundw
       case rel=>
        refine⟨k+1,m'+1+1,l'.set k (p,q),by simp,by simp,by omega,by omega,by omega,by omega,(HB2.out.trans (HE.out.mono (by have:=HB2.out.size;have:=HBEL.out.size;omega))).trans HP.out.2,HP.out.1,by rw[List.length_set];exact HL'.out,?_,?_⟩
        ·rw[List.drop_set_of_lt (by omega),<-List.drop_drop,HDR.out,List.drop_drop]
        ·have hset:(l'.set k (p,q))[k]?=some (p,q):=by rw[List.getElem?_set_self HKL.out]
         rw[Fq hset,List.take_set_of_le (Nat.le_refl _),HTK.out,ST.out,if_neg (Ad0.1 HQ.out)]
       case measure=>simp[intOf];omega
     ·have hfin:l'.take k=Ff l:=by
       have h9:l.take (j+1+m)=l:=List.take_of_length_le (by rw[<-HN.out];omega)
       have:=HTK.out
       rw[h9] at this
       exact this
      have hR':Row wr B (.slice (some ⟨g,0,none⟩) l'.length c) l':=by rw[HL'.out,<-HN.out];exact HR.out
      have hsl2:=fun w=>D6 (w:=w) (A:=some ⟨g,0,none⟩) (n:=n) (c:=c) (k:=k) (by omega) hcap
      have hsl3:=fun w=>Lj (w:=w) (A:=some ⟨g,0,none⟩) (n:=n) (c:=c) (k:=k) (by omega)
      have hcl:=fun ty=>Li Tryz.underlying135 hR' (k:=k) (by rw[HL'.out,<-HN.out];omega) ty
      rw[HL'.out,<-HN.out] at hcl
      obtain⟨w',hc1,hc2,hc3⟩:=hcl 0
      have hc4:∀ ty,(Builtin.clear_ #[135] ty #[.slice (G4 (some ⟨g,0,none⟩) c k) (n - k) (c - k)]).run Tryz.prog wr = .ok (.tuple #[]) w':=fun ty=>hc1
      have R2:=Avp hc2;have R3:=Avp hc3;have FIN:=Avp hfin
      generalize G4 (some ⟨g,0,none⟩) c k=Z at *
      clear hcl hc1 hc2 hc3 hR' hfin hsl
      go_wp2
      go_ret
      exact⟨_,rfl,(HBEL.out.trans HB2.out).trans R3.out,by rw[<-FIN.out];exact R2.out⟩
  ·have e:Ff l=l:=by have:=HC.out;rwa [List.take_of_length_le (by rw[<-HN.out];omega)] at this
   have E:=Avp e;clear e
   go_wp2
   go_ret
   exact⟨_,rfl,hb.mono (by omega),by rw[E.out];have:=Row.mono H.out hb;exact this⟩
theorem Agz (B:Nat) (v:Value) (l:List Dot) (w:World) (h:Row w B v l) (hs:Small l.length) :
  Calls Tryz.prog 394 #[v] w (Vz B (Ff l) w):=by
 by_cases h2:2<=l.length
 ·rcases h.2 with⟨rfl,h0⟩ | ⟨g,cap,cur,rfl,_⟩
  ·omega
  ·exact Vb B g cap l w h hs h2
 ·obtain⟨A,c,rfl,hd⟩:=Row.dots h
  have e:=T3 (l:=l) (by omega)
  have H:=Avp h;have E:=Avp e;clear h e hd
  have hc:decide ((l.length:Int)<2)=true:=by rw[decide_eq_true_iff];omega
  have h2':l.length<2:=by omega
  generalize hn:l.length=n at *
  have HN:=Avp hn;clear hn
  go_enter Tryz.func394,Tryz.ntmps394
  go_wp2
  go_ret
  exact⟨_,rfl,Below.refl _ _,by rw[E.out];exact H.out⟩
theorem Hi {a b c:Dot} (h1:Bp a b=true) (h2:Bp b c=true):Bp a c=true:=by rw[Dj] at *;omega
theorem Og (a:Dot):Bp a a=false:=by cases h:Bp a a with | false=>rfl | true=>rw[Dj] at h;omega
theorem Abk {a b:Dot} (h:Bp a b=true):Bp b a=false:=by
 cases h2:Bp b a with | false=>rfl | true=>rw[Dj] at h h2;omega
theorem I8 {a b:Dot} (h1:Bp a b=false) (h2:Bp b a=false):a=b:=by
 have n1:¬Bp a b=true:=by rw[h1];simp
 have n2:¬Bp b a=true:=by rw[h2];simp
 rw[Dj] at n1 n2
 apply Prod.ext <;> omega
def Ord (l:List Dot):Prop:=l.Pairwise (fun a b=>Bp a b=true)
theorem Nr:∀ l:List Dot,Ea l=true↔Ord l
 | []=>by simp[Ea,Ord]
 | [a]=>by simp[Ea,Ord]
 | a::b::t=>by
  have ih:=Nr (b::t)
  simp only[Ea,Bool.and_eq_true,ih]
  unfold Ord
  rw[List.pairwise_cons (a:=a)]
  constructor
  ·rintro⟨h1,h2⟩
   refine⟨fun x hx=>?_,h2⟩
   rcases List.mem_cons.1 hx with rfl | hx
   ·exact h1
   ·exact Hi h1 ((List.pairwise_cons.1 h2).1 x hx)
  ·rintro⟨h1,h2⟩
   exact⟨h1 b List.mem_cons_self,h2⟩
theorem Px:∀ {a b:List Dot},Ord a->Ord b->(∀ d,d∈a↔d∈b)->a=b
 | [],[],_,_,_=>rfl
 | [],b::t,_,_,h=>by have:=(h b).2 List.mem_cons_self;cases this
 | a::s,[],_,_,h=>by have:=(h a).1 List.mem_cons_self;cases this
 | a::s,b::t,ha,hb,h=>by
  obtain⟨ha1,ha2⟩:=List.pairwise_cons.1 ha
  obtain⟨hb1,hb2⟩:=List.pairwise_cons.1 hb
  have e:a=b:=by
   rcases List.mem_cons.1 ((h a).1 List.mem_cons_self) with e | hm
   ·exact e
   ·rcases List.mem_cons.1 ((h b).2 List.mem_cons_self) with e | hm2
    ·exact e.symm
    ·have h1:=hb1 a hm;have h2:=ha1 b hm2
     rw[Abk h1] at h2;cases h2
  subst e
  rw[Px ha2 hb2 fun d=>⟨fun hd=>?_,fun hd=>?_⟩]
  ·rcases List.mem_cons.1 ((h d).1 (List.mem_cons_of_mem _ hd)) with rfl | hm
   ·have:=ha1 d hd;rw[Og] at this;cases this
   ·exact hm
  ·rcases List.mem_cons.1 ((h d).2 (List.mem_cons_of_mem _ hd)) with rfl | hm
   ·have:=hb1 d hd;rw[Og] at this;cases this
   ·exact hm
theorem Yc:∀ (d:Dot) (s:List Dot),∀ a∈s.take (Ph d s),Bp a d=true
 | d,[],a,h=>by simp at h
 | d,b::t,a,h=>by
  rw[Ph] at h
  split at h
  ·rename_i hl
   rw[List.take_succ_cons] at h
   rcases List.mem_cons.1 h with rfl | h
   ·exact hl
   ·exact Yc d t a h
  ·simp at h
theorem Wx:∀ (d:Dot) (s:List Dot),Ord s->d∉s->∀ a∈s.drop (Ph d s),Bp d a=true
 | d,[],_,_,a,h=>by simp at h
 | d,b::t,ho,hd,a,h=>by
  obtain⟨h1,h2⟩:=List.pairwise_cons.1 ho
  rw[Ph] at h
  split at h
  ·rw[List.drop_succ_cons] at h
   exact Wx d t h2 (fun hm=>hd (List.mem_cons_of_mem _ hm)) a h
  ·rename_i hl
   have hl':Bp b d=false:=by simpa using hl
   have hbd:Bp d b=true:=by
    cases h3:Bp d b with
    | true=>rfl
    | false=>exact absurd (I8 h3 hl') (fun e=>hd (e ▸ List.mem_cons_self))
   rw[List.drop_zero] at h
   rcases List.mem_cons.1 h with rfl | h
   ·exact hbd
   ·exact Hi hbd (h1 a h)
theorem Zj {s:List Dot} {d x:Dot}:x∈Fo s d↔x∈s∨x=d:=by
 unfold Fo
 split
 ·rename_i h
  have:=Yi.1 h
  constructor
  ·exact Or.inl
  ·rintro(h | rfl) <;> assumption
 ·rw[List.mem_append,List.mem_cons]
  conv=>rhs;rw[<-List.take_append_drop (Ph d s) s,List.mem_append]
  constructor
  ·rintro(h | h | h)
   ·exact .inl (.inl h)
   ·exact .inr h
   ·exact .inl (.inr h)
  ·rintro((h | h) | h)
   ·exact .inl h
   ·exact .inr (.inr h)
   ·exact .inr (.inl h)
theorem Wm {s:List Dot} (d:Dot) (h:Ord s):Ord (Fo s d):=by
 unfold Fo
 split
 ·exact h
 ·rename_i hm
  have hd:d∉s:=fun hd=>hm (Yi.2 hd)
  have h1:=Yc d s
  have h2:=Wx d s h hd
  unfold Ord
  rw[List.pairwise_append,List.pairwise_cons]
  have h3:Ord (s.take (Ph d s)++s.drop (Ph d s)):=by rw[List.take_append_drop];exact h
  unfold Ord at h3
  rw[List.pairwise_append] at h3
  refine⟨h3.1,⟨h2,h3.2.1⟩,fun a ha b hb=>?_⟩
  rcases List.mem_cons.1 hb with rfl | hb
  ·exact h1 a ha
  ·exact Hi (h1 a ha) (h2 b hb)
theorem Hd:∀ (l s:List Dot),Ord s->Ord (l.foldl Fo s)∧∀ x,x∈l.foldl Fo s↔x∈s∨x∈l
 | [],s,h=>⟨h,fun x=>by simp⟩
 | a::t,s,h=>by
  obtain⟨h1,h2⟩:=Hd t (Fo s a) (Wm a h)
  refine⟨h1,fun x=>?_⟩
  rw[List.foldl_cons,h2,Zj,List.mem_cons,or_assoc]
theorem Fu (a b:List Dot):Ord (Be a b):=(Hd b _ (Hd a [] List.Pairwise.nil).1).1
theorem Ha {a b:List Dot} {x:Dot}:x∈Be a b↔x∈a∨x∈b:=by
 unfold Be
 rw[(Hd b _ (Hd a [] List.Pairwise.nil).1).2,(Hd a [] List.Pairwise.nil).2];simp
theorem Sg:∀ (l acc:List Dot),Ord acc->(∀ a∈acc,∀ b∈l,Bp b a=false)->l.Pairwise (fun a b=>Bp b a=false)->Ord (l.foldl Jq acc)∧∀ x,x∈l.foldl Jq acc↔x∈acc∨x∈l
 | [],acc,h,_,_=>⟨h,fun x=>by simp⟩
 | d::t,acc,h,h2,h3=>by
  obtain⟨h4,h5⟩:=List.pairwise_cons.1 h3
  rw[List.foldl_cons]
  by_cases hl:acc.getLast?=some d
  ·have e:Jq acc d=acc:=by unfold Jq;rw[if_pos hl]
   have hm:d∈acc:=List.mem_of_getLast? hl
   rw[e]
   obtain⟨i1,i2⟩:=Sg t acc h (fun a ha b hb=>h2 a ha b (List.mem_cons_of_mem _ hb)) h5
   refine⟨i1,fun x=>?_⟩
   rw[i2,List.mem_cons]
   constructor
   ·rintro(h | h) <;> simp[h]
   ·rintro(h | rfl | h)
    ·exact .inl h
    ·exact .inl hm
    ·exact .inr h
  ·have e:Jq acc d=acc++[d]:=by unfold Jq;rw[if_neg hl]
   have hall:∀ a∈acc,Bp a d=true:=by
    intro a ha
    have hz:Bp d a=false:=h2 a ha d List.mem_cons_self
    cases h6:Bp a d with
    | true=>rfl
    | false=>
     have ead:=I8 h6 hz
     subst ead
     exfalso
     obtain⟨ini,z,hac⟩:∃ ini z,acc=ini++[z]:=by
      rcases List.eq_nil_or_concat acc with h | ⟨i,z,h⟩
      ·rw[h] at ha;cases ha
      ·exact⟨i,z,by simpa using h⟩
     subst hac
     rw[List.getLast?_concat] at hl
     rcases List.mem_append.1 ha with hi | hi
     ·unfold Ord at h
      rw[List.pairwise_append] at h
      have h7:=h.2.2 a hi z (by simp)
      have h8:=h2 z (by simp) a List.mem_cons_self
      rw[h8] at h7;cases h7
     ·simp at hi;subst hi;exact hl rfl
   have hacc:Ord (acc++[d]):=by
    unfold Ord at h ⊢
    rw[List.pairwise_append]
    exact⟨h,by simp,fun a ha b hb=>by simp at hb;subst hb;exact hall a ha⟩
   rw[e]
   obtain⟨i1,i2⟩:=Sg t (acc++[d]) hacc (fun a ha b hb=>by
    rcases List.mem_append.1 ha with h' | h'
    ·exact h2 a h' b (List.mem_cons_of_mem _ hb)
    ·simp at h';subst h';exact h4 b hb) h5
   refine⟨i1,fun x=>?_⟩
   rw[i2,List.mem_append,List.mem_singleton,List.mem_cons,or_assoc]
theorem Xq {l l':List Dot} (h:Md Bp l l'):Ff l'=Be l []:=by
 obtain⟨h1,h2⟩:=Sg l' [] List.Pairwise.nil (fun a ha=>by cases ha) h.2
 refine Px h1 (Fu _ _) fun d=>?_
 show d∈l'.foldl Jq []↔_
 rw[h2,Ha]
 simp[h.1.mem_iff]
theorem Am0 (A:Option Addr) (n c:Nat) (l:List Dot) (w:World) (h:Bc w A n c l) (hs:Small n) :
  Calls Tryz.prog 330 #[.slice A n c] w (Ret w (Dd w.heap.size (Be l []))):=by
 have f1:=Ur A n c l w h hs
 have hsl:Small l.length:=by rw[<-h.len];exact hs
 have F1:=Avp f1;have HS:=Avp hsl
 clear f1 h hs hsl
 go_enter Tryz.func330,Tryz.ntmps330
 go_wp2_with fail
 refine F1.out.mono ?_
 rintro e w1 ⟨v,rfl,hb1,hr1⟩
 have f2:=Asg w.heap.size v l w1 hr1 HS.out
 have F2:=Avp f2;clear f2 hr1 F1
 go_wp2_with fail
 refine F2.out.mono ?_
 rintro e w2 ⟨rfl,hb2,l',hso,hr2⟩
 have f3:=Agz w.heap.size v l' w2 hr2 (by have:=hso.1.length_eq;unfold Small;have:=HS.out.out;omega)
 rw[Xq hso] at f3
 have F3:=Avp f3;clear f3 hr2 hso F2
 go_wp2_with fail
 refine F3.out.mono ?_
 rintro e w3 ⟨v',rfl,hb3,hr3⟩
 have R3:=Avp hr3;clear hr3 F3
 go_wp2_with fail
 go_ret
 exact⟨_,rfl,(hb1.trans hb2).trans hb3,R3.out⟩
theorem Fv (w:World) (l:List UInt8):Below w.heap.size w (Lib.bytesWorld w 5 ⟨⟨l⟩⟩):=
 ⟨rfl,rfl,rfl,by rw[Lib.bytesWorld_size];omega,fun k hk=>Lib.bytesWorld_at_old w _ _ k hk⟩
theorem Ig (w:World) (l:List UInt8) (hl:l.length<=1000000):Sl encB (Lib.bytesWorld w 5 ⟨⟨l⟩⟩) (some ⟨w.heap.size,0,none⟩) l.length (grownCap w l.length 0 5) l:=by
 refine⟨rfl,grownCap_ge w _ _ _,grownCap_le_maxLen w _ _ _ (Nat.le_trans hl (by unfold maxLen;omega)),(fun e=>nomatch e),fun i x hi=>⟨w.heap.size,0,rfl,by rw[Lib.bytesWorld_size];omega,fun j u hj=>?_⟩⟩
 have hil:i<l.length:=(List.getElem?_eq_some_iff.1 hi).1
 have h:=Lib.bytesWorld_cell w 5 ⟨⟨l⟩⟩ i hil
 cases j with
 | zero=>
  simp[encB] at hj
  have e:(0+i*encB.z+0)=i:=by simp[encB]
  rw[e,h,<-hj]
  have e2:l.getD i 0=x:=by rw[List.getD_eq_getElem?_getD,hi];rfl
  simp[List.getD_eq_getElem?_getD,hi]
 | succ j=>simp[encB] at hj
theorem Qt (w:World) (l:List UInt8):(convert 9 23 (Ac l)).run Tryz.prog w = .ok (.slice (some ⟨w.heap.size,0,none⟩) l.length (grownCap w l.length 0 5)) (Lib.bytesWorld w 5 ⟨⟨l⟩⟩):=
 Lib.run_convert_string_bytes w _ _ 5 ⟨⟨l⟩⟩ Tryz.underlying9 Tryz.underlying23 Tryz.underlying5
section
variable {P:Program} {ops:List Oper} {Fs:List VT} {w0:World} {a0:Act} {i:Nat} {d:Option Tmp} {ty:TypeId} {pos:String} {after:Array Edge} {g:Option (Nat×Bool)}
theorem Ob.strIdx {x y:Operand} {p q r:Value} {t:TypeId} (hw:Aa ops Fs w0 a0 i ⟨d,.index t x y,ty,pos,after,g⟩) (hx:Has ops Fs w0 a0 i ⟨d,.index t x y,ty,pos,after,g⟩ x (Is p)) (hy:Has ops Fs w0 a0 i ⟨d,.index t x y,ty,pos,after,g⟩ y (Is q))
  (h:∀ w,(Instr.index t p q).run P w = .ok r w):Ob P ops Fs w0 a0 i ⟨d,.index t x y,ty,pos,after,g⟩ (Is r):=
 Ob.stay hw fun a w cx=>⟨r,by
  have h1:a.eval x=p:=hx a w cx
  have h1':a.eval y=q:=hy a w cx
  have h2:=h w
  generalize a.eval=ρ at h1 h1'
  simp[execOp,h1,h1',h2],rfl⟩
end
theorem Adc (w:World):(Instr.index 9 (Ac [32]) (.int .i64 0)).run Tryz.prog w = .ok (.int .u8 32) w:=by
 simp[go_sem]
 rfl
def Nn (q:Int):Bool:=decide (1<=q)&&decide (q<=2147483647)
theorem La (q:Int) (w:World):Calls Tryz.prog 178 #[.int .i64 q] w (Ret w (IsB (Nn q))):=by
 unfold Nn
 go_enter Tryz.func178,Tryz.ntmps178
 go_wp2
 all_goals go_ret
 all_goals exact Ay (by rw[Bool.eq_iff_iff];simp;omega) (Below.refl _ _)
structure Av where
 d:Dot
 q:Int
 t:Nat
 deriving DecidableEq
def encM:Enc Av:=⟨4,fun m=>[.int .i64 m.d.1,.int .i64 m.d.2,.int .i64 m.q,.int .u64 m.t],fun _=>rfl,fun m u hu=>by
 simp only[List.mem_cons,List.not_mem_nil,or_false] at hu
 rcases hu with rfl | rfl | rfl | rfl <;> rfl⟩
abbrev Dh (m:Av):Value:=.agg #[.int .i64 m.d.1,.int .i64 m.d.2,.int .i64 m.q,.int .u64 m.t]
abbrev Fj (m:Av):Array Value:=#[.int .i64 m.d.1,.int .i64 m.d.2,.int .i64 m.q,.int .u64 m.t]
theorem Aba:Inf Tryz.prog 249 encM 32:=by
 obtain⟨i,h1,h2,h3,h4⟩:=info_parts (P:=Tryz.prog) (show(Tryz.prog.info? 249).map (fun i=>(i.zero,i.size,i.bytes))=some (some (.agg #[.int .i64 0,.int .i64 0,.int .i64 0,.int .u64 0]),4,32) by kernel_rfl)
 exact⟨⟨i,_,h1,h2,h3,h4,rfl⟩,by decide,by decide⟩
def Dk (l:List Av):List Dot:=l.map Av.d
theorem Sl.mark {w:World} {A:Option Addr} {n c:Nat} {l:List Av} (h:Sl encM w A n c l) {k:Nat} (hk:k<n):∃ b o m,A=some ⟨b,o,none⟩∧b<w.heap.size∧l[k]?=some m∧l.drop k=m::l.drop (k+1)∧
  w.cell? ⟨b,o+k*4,none⟩=some (.int .i64 m.d.1)∧w.cell? ⟨b,o+k*4+1,none⟩=some (.int .i64 m.d.2)∧w.cell? ⟨b,o+k*4+2,none⟩=some (.int .i64 m.q)∧w.cell? ⟨b,o+k*4+3,none⟩=some (.int .u64 m.t):=by
 obtain⟨b,o,m,h1,h2,h3,h4,h5⟩:=h.at_ hk
 exact⟨b,o,m,h1,h2,h3,h4,h5 0 _ rfl,h5 1 _ rfl,h5 2 _ rfl,h5 3 _ rfl⟩
theorem Akw (w:World) (o:Obj) (d:Dot) (ty:TypeId):Bc ((w.alloc o).alloc (.cells #[.int .i64 d.1,.int .i64 d.2] ty)) (some ⟨w.heap.size+1,0,none⟩) 1 1 [d]:=by
 refine⟨rfl,Nat.le_refl _,by unfold maxLen;omega,(fun e=>nomatch e),fun i x hi=>?_⟩
 have:i=0:=by have:=(List.getElem?_eq_some_iff.1 hi).1;simpa using this
 subst this
 simp at hi;subst hi
 exact⟨w.heap.size+1,0,rfl,by simp,by simp[go_sem],by simp[go_sem]⟩
def As6 (w:World) (n:Nat) (l:List Av) (v i:Value) (wr:World):Prop:=∃ k:Nat,i = .int .i64 k∧k<=n∧Below w.heap.size w wr∧Row wr w.heap.size v (Dk (l.take k))
theorem Cc {α:Type} {l:List α} {k:Nat} {x:α} (h:l[k]?=some x):l.take (k+1)=l.take k++[x]:=by
 rw[List.take_add_one,h];rfl
theorem Aca {l:List Av} {k:Nat} {m:Av} (h:l[k]?=some m):Dk (l.take (k+1))=Dk (l.take k)++[m.d]:=by rw[Cc h];simp[Dk]
theorem Afj (l:List Av) (k:Nat):(Dk (l.take k)).length<=k:=by simp[Dk];omega
theorem Aio {A:Option Addr} {n c:Nat} {l:List Av} {w:World} (h:Sl encM w A n c l) (hs:Small n):Calls Tryz.prog 266 #[.slice A n c] w (Ret w (Dd w.heap.size (Dk l))):=by
 have hb:=h.big
 have H:=Avp h;have HS:=Avp hs
 clear h hs
 go_enter Tryz.func266,Tryz.ntmps266
 go_wp2
 go_loopw [3,8] (fun v i wr=>As6 w n l v i wr) (fun _ i _=>n - (intOf i).toNat)
 case atStart=>exact⟨0,rfl,Nat.zero_le _,Below.refl _ _,Row.nil_ _ _⟩
 case round=>
  obtain⟨k,rfl,hk,hbr,hr⟩:=hrel
  have HB:=Avp hbr;have R:=Avp hr
  clear hbr hr
  by_cases hlt:k<n
  ·obtain⟨b,o,m,hA,hbl,hm,_,c0,c1,c2,c3⟩:=(H.out.mono HB.out).mark hlt
   have HM:=Avp hm;have HL:=Avp hlt
   have hix:=(show(Instr.indexAt 244 (.slice A n c) (.int .i64 (k:Int))).run Tryz.prog wr = .ok (.pointer (some ⟨b,o+k*4,none⟩)) wr by rw[hA];simp[go_sem,hlt])
   have D1:=Avp (Akw wr (.cells (Fj m) 249) m.d 224)
   clear hm hA
   go_wp2_with (first
    | (at_builtin;refine D4 (B:=w.heap.size) (v:=u3) (l:=Dk (l.take k)) (k:=[m.d]) rfl rfl Tryz.underlying135 rfl rfl (R.out.mono (by go_grown)) D1.out (by have:=Afj l k;have:=HS.out.out;simp;omega) (by have:=HB.out.size;simp;omega) ?_;intro v1 w1 r1 g1;have R1:=Avp r1;have G1:=Avp g1;clear r1 g1)
    | fail)
   go_roundw
   case rel=>
    exact⟨k+1,by simp,HL.out,(HB.out.le (show Below wr.heap.size wr _ by go_grown)).grown G1.out (by have:=HB.out.size;simp;omega) (fun q hq=>(World.ownsRow.lt R.out q hq).1),by rw[Aca HM.out];exact R1.out⟩
   case measure=>simp[intOf];have:=HL.out;omega
  ·have hkn:k=n:=by omega
   subst hkn
   go_wp2
   go_ret
   have e:l.take k=l:=by rw[H.out.len];exact List.take_length
   have r:=R.out
   rw[e] at r
   exact⟨_,rfl,HB.out,r⟩
theorem Aop {A:Option Addr} {n c:Nat} {l:List Av} {w:World} (h:Sl encM w A n c l) (hs:Small n):Calls Tryz.prog 336 #[.slice A n c] w (Ret w (IsB (Ea (Dk l)))):=by
 have D:=Avp (Aio h hs)
 generalize Dk l=k at *
 clear h hs
 go_enter Tryz.func336,Tryz.ntmps336
 go_wp2_with fail
 refine D.out.mono ?_
 rintro _ w1 ⟨v,rfl,hb1,hr⟩
 obtain⟨A1,c1,rfl,hd⟩:=Row.dots hr
 have HB:=Avp hb1
 have I:=Avp (Aho A1 _ c1 _ w1 hd)
 clear hb1 hd hr
 go_wp2_with fail
 refine I.out.mono ?_
 rintro _ w2 ⟨_,rfl,hb2,rfl⟩
 have HB2:=Avp (HB.out.le hb2)
 clear hb2
 go_wp2
 go_ret
 exact Ay rfl HB2.out
def Ho (m:Av):Bool:=Bm m.d&&(Nn m.q&&decide (0<m.t))
theorem Abb (m:Av) (a b c:Bool) (h1:Bm m.d=a) (h2:Nn m.q=b) (h3:decide (0<m.t)=c):Ho m=(a&&(b&&c)):=by rw[Ho,h1,h2,h3]
theorem Qk (m:Av) (w:World):Calls Tryz.prog 339 #[Dh m] w (Ret w (IsB (Ho m))):=by
 obtain⟨a,h1⟩:∃ a,Bm m.d=a:=⟨_,rfl⟩
 obtain⟨b,h2⟩:∃ a,Nn m.q=a:=⟨_,rfl⟩
 obtain⟨z,h3⟩:∃ a,decide (0<m.t)=a:=⟨_,rfl⟩
 have E:=Avp (Abb m a b z h1 h2 h3)
 have C1:=Avp (fun w=>by have:=Lw m.d.1 m.d.2 w;rw[show Bm (m.d.1,m.d.2)=a from h1] at this;exact this)
 have C2:=Avp (fun w=>by have:=La m.q w;rw[h2] at this;exact this)
 have D3:=Avp h3
 have HB0:=Avp (show Below w.heap.size w (w.alloc (.cells (Fj m) 249)) from(Below.refl _ _).alloc (Nat.le_refl _) _)
 have Q2:=Avp (show(w.alloc (.cells (Fj m) 249)).cell? ⟨w.heap.size,2,none⟩=some (.int .i64 m.q) by simp[go_sem])
 have Q3:=Avp (show(w.alloc (.cells (Fj m) 249)).cell? ⟨w.heap.size,3,none⟩=some (.int .u64 m.t) by simp[go_sem])
 clear h1 h2 h3
 rw[E.out]
 clear E
 go_enter Tryz.func339,Tryz.ntmps339
 go_wp2_with fail
 refine(C1.out _).mono ?_
 rintro _ w1 ⟨_,rfl,hb1,rfl⟩
 have q2:=Ad hb1 Q2.out
 have P3:=Avp (Ad hb1 Q3.out)
 have HB1:=Avp (HB0.out.le hb1)
 clear hb1 C1
 cases a with
 | false=>
  go_wp2
  go_ret
  exact Ay rfl HB1.out
 | true=>
  go_wp2_with fail
  refine(C2.out _).mono ?_
  rintro _ w2 ⟨_,rfl,hb2,rfl⟩
  have q3:=Ad hb2 P3.out
  have HB2:=Avp (HB1.out.le hb2)
  have d3:=D3.out
  clear hb2 q2 C2
  cases b with
  | false=>
   go_wp2
   go_ret
   exact Ay rfl HB2.out
  | true=>
   cases z with
   | false=>
    go_wp2
    go_ret
    exact Ay rfl HB2.out
   | true=>
    go_wp2
    go_ret
    exact Ay rfl HB2.out
theorem Aeq:∀ args w,(callFunc 340 args).run Tryz.prog w = .ok (.enter 340 args) w:=enters_of Tryz.func340 (by kernel_rfl) rfl
theorem Ami (m:Av) (w:World):Calls Tryz.prog 340 #[Dh m] w (Ret w (IsB (!Ho m))):=by
 have C:=Avp (Qk m)
 generalize Ho m=b at *
 have HB0:=Avp (show Below w.heap.size w (w.alloc (.cells (Fj m) 249)) from(Below.refl _ _).alloc (Nat.le_refl _) _)
 go_enter Tryz.func340,Tryz.ntmps340
 go_wp2_with fail
 refine(C.out _).mono ?_
 rintro _ w1 ⟨_,rfl,hb1,rfl⟩
 have HB1:=Avp (HB0.out.le hb1)
 clear hb1
 go_wp2
 go_ret
 exact Ay rfl HB1.out
theorem Aef:∀ args w,(callFunc 338 args).run Tryz.prog w = .ok (.enter 338 args) w:=enters_of Tryz.func338 (by kernel_rfl) rfl
theorem Aoy (m:Av) (w:World):Calls Tryz.prog 338 #[Dh m] w (Ret w (IsB (!Ho m))):=by
 have C:=Avp (Qk m)
 generalize Ho m=b at *
 have HB0:=Avp (show Below w.heap.size w (w.alloc (.cells (Fj m) 249)) from(Below.refl _ _).alloc (Nat.le_refl _) _)
 go_enter Tryz.func338,Tryz.ntmps338
 go_wp2_with fail
 refine(C.out _).mono ?_
 rintro _ w1 ⟨_,rfl,hb1,rfl⟩
 have HB1:=Avp (HB0.out.le hb1)
 clear hb1
 go_wp2
 go_ret
 exact Ay rfl HB1.out
def Gp {α:Type} (p:α->Bool):Nat->List α->Int
 | _,[]=>-1
 | k,a::t=>if p a then (k:Int) else Gp p (k+1) t
theorem Ry {α:Type} (p:α->Bool):∀ (l:List α) (k:Nat),decide (0<=Gp p k l)=l.any p
 | [],k=>by simp[Gp]
 | a::t,k=>by
  simp only[Gp,List.any_cons]
  by_cases h:p a=true
  ·simp[h]
  ·simp only[h,if_false,Bool.false_or];exact Ry p t (k+1)
def Ag4 {α:Type} (V:α->Value) (w:World) (g:Nat) (cb:Array Value) (l:List α) (p:α->Bool):Prop:=
 ∀ w',Below w.heap.size w w'->∀ x,x∈l->Calls Tryz.prog g (#[V x]++cb) w' (Ret w' (IsB (p x)))
def H9 {α:Type} (w:World) (n:Nat) (l:List α) (p:α->Bool) (i:Value) (wr:World):Prop:=
 ∃ k:Nat,i = .int .i64 k∧k<=n∧Below w.heap.size w wr∧Gp p 0 l=Gp p k (l.drop k)
theorem H9.next {α:Type} {w wr w1:World} {n k:Nat} {l:List α} {p:α->Bool} (hb:Below w.heap.size w wr) (hb1:Below wr.heap.size wr w1) (hk:k<n) {a:α} (h1:l.drop k=a::l.drop (k+1))
  (hs:Gp p 0 l=Gp p k (l.drop k)) (hl:p a=false):H9 w n l p (.int .i64 ((k:Int)+1)) w1:=
 ⟨k+1,by simp,hk,hb.le hb1,by rw[hs,h1,Gp,hl];rfl⟩
theorem Ady (g:Nat) (cb:Array Value) (p:Av->Bool) (A:Option Addr) (n c:Nat) (l:List Av) (w:World) (h:Sl encM w A n c l)
  (eg:∀ args w,(callFunc g args).run Tryz.prog w = .ok (.enter g args) w) (hp:Ag4 Dh w g cb l p) :
  Calls Tryz.prog 395 #[.slice A n c,.func (.func g) #[] cb] w (Ret w (IsI (Gp p 0 l))):=by
 have hn:=h.big
 have HP:=Avp hp;have H:=Avp h;clear hp h
 go_enter Tryz.func395,Tryz.ntmps395
 go_wp2
 go_loopw [8] (fun i wr=>H9 w n l p i wr) (fun i _=>n - (intOf i).toNat)
 case atStart=>exact⟨0,rfl,by omega,Below.refl _ _,by simp⟩
 case round=>
  obtain⟨k,rfl,hk,hb,hs⟩:=hrel
  have HS:=Avp hs;have HB:=Avp hb
  clear hs hb
  by_cases hlt:k<n
  ·obtain⟨b,o,m,hA,hbk,hm,hd,cs⟩:=(H.out.mono HB.out).mark (k:=k) hlt
   obtain⟨c0,c1,c2,c3⟩:=cs
   have hix:=(show(Instr.indexAt 244 (.slice A n c) (.int .i64 (k:Int))).run Tryz.prog wr = .ok (.pointer (some ⟨b,o+k*4,none⟩)) wr by rw[hA];simp[go_sem,hlt])
   have D1:=Avp hd
   have cp:=HP.out _ HB.out m (List.mem_of_getElem? hm)
   have LT:=Avp hlt
   clear hd hm hA
   cases hl:p m with
   | true=>
    rw[hl] at cp
    have CP:=Avp cp;have HL:=Avp hl;clear hl cp
    go_wp2_with (first | ((with_reducible refine CP.out.mono ?_);rintro e w1 ⟨_,rfl,hb1,rfl⟩))
    go_ret
    exact⟨_,rfl,HB.out.le hb1,by rw[HS.out,D1.out,Gp,HL.out];rfl⟩
   | false=>
    rw[hl] at cp
    have CP:=Avp cp;have HL:=Avp hl;clear hl cp
    go_wp2_with (first | ((with_reducible refine CP.out.mono ?_);rintro e w1 ⟨_,rfl,hb1,rfl⟩))
    go_roundw
    case rel=>exact H9.next HB.out hb1 LT.out D1.out HS.out HL.out
    case measure=>simp[intOf];have:=LT.out;omega
  ·have LN:=Avp (show l.length<=k by have:=H.out.len;omega)
   go_wp2
   go_ret
   exact⟨_,rfl,HB.out,by rw[HS.out,List.drop_eq_nil_of_le LN.out];rfl⟩
theorem P8 (g:Nat) (cb:Array Value) (p:Av->Bool) (A:Option Addr) (n c:Nat) (l:List Av) (w:World) (h:Sl encM w A n c l)
  (eg:∀ args w,(callFunc g args).run Tryz.prog w = .ok (.enter g args) w) (hp:Ag4 Dh w g cb l p) :
  Calls Tryz.prog 337 #[.slice A n c,.func (.func g) #[] cb] w (Ret w (IsB (l.any p))):=by
 have C:=Avp (Ady g cb p A n c l w h eg hp)
 have hx:=Ry p l 0
 generalize Gp p 0 l=i at *
 generalize l.any p=r at *
 have HX:=Avp hx
 clear hx hp h eg
 go_enter Tryz.func337,Tryz.ntmps337
 go_wp2_with (go_at_call 395;((with_reducible refine C.out.mono ?_);rintro e w1 ⟨_,rfl,hb1,rfl⟩))
 go_ret
 exact Ay HX.out hb1
def Fh (l:List Av):Bool:=l.all Ho
theorem Z8 (l:List Av):(l.any fun m=>!Ho m) = !Fh l:=by unfold Fh;induction l with | nil=>rfl | cons a t ih=>simp[ih]
theorem Acz {A:Option Addr} {n c:Nat} {l:List Av} {w:World} (h:Sl encM w A n c l) :
  Calls Tryz.prog 337 #[.slice A n c,.func (.func 340) #[] #[]] w (Ret w (IsB (!Fh l))):=by
 rw[<-Z8]
 exact P8 340 #[] (fun m=>!Ho m) A n c l w h Aeq (fun w' _ x _=>Ami x w')
theorem Aom {A:Option Addr} {n c:Nat} {l:List Av} {w:World} (h:Sl encM w A n c l) :
  Calls Tryz.prog 337 #[.slice A n c,.func (.func 338) #[] #[]] w (Ret w (IsB (!Fh l))):=by
 rw[<-Z8]
 exact P8 338 #[] (fun m=>!Ho m) A n c l w h Aef (fun w' _ x _=>Aoy x w')
def or4 (x y z u:Int):Int:=orI x (orI y (orI z u))
theorem Au2 (x y z u:Int) (b:Nat) (w:World) (h1:w.cell? ⟨b,0,none⟩=some (.int .i64 x)) (h2:w.cell? ⟨b,1,none⟩=some (.int .i64 y)) (h3:w.cell? ⟨b,2,none⟩=some (.int .i64 z)) (h4:w.cell? ⟨b,3,none⟩=some (.int .i64 u)) :
  Calls Tryz.prog 396 #[.slice (some ⟨b,0,none⟩) 4 4] w fun e w'=>e = .returned (.int .i64 (or4 x y z u))∧w=w':=by
 by_cases hx:x=0
 ·subst hx
  by_cases hy:y=0
  ·subst hy
   by_cases hz:z=0
   ·subst hz
    by_cases hu:u=0
    ·subst hu
     go_enter Tryz.func396,Tryz.ntmps396
     go_wp2
     go_rounds 5
     go_ret
     exact⟨rfl,rfl⟩
    ·have hne:(u != 0)=true:=by simpa using hu
     go_enter Tryz.func396,Tryz.ntmps396
     go_wp2
     go_rounds 5
     go_ret
     exact⟨rfl,rfl⟩
   ·have hne:(z != 0)=true:=by simpa using hz
    go_enter Tryz.func396,Tryz.ntmps396
    go_wp2
    go_rounds 4
    go_ret
    exact⟨by simp[or4,orI,hz],rfl⟩
  ·have hne:(y != 0)=true:=by simpa using hy
   go_enter Tryz.func396,Tryz.ntmps396
   go_wp2
   go_rounds 3
   go_ret
   exact⟨by simp[or4,orI,hy],rfl⟩
 ·have hne:(x != 0)=true:=by simpa using hx
  go_enter Tryz.func396,Tryz.ntmps396
  go_wp2
  go_rounds 2
  go_ret
  exact⟨by simp[or4,orI,hx],rfl⟩
def Pp (a b:Nat):Int:=if a<b then -1 else if b<a then 1 else 0
theorem Aer (a b:Nat) (w:World):Calls Tryz.prog 397 #[.int .u64 (a:Int),.int .u64 (b:Int)] w fun e w'=>e = .returned (.int .i64 (Pp a b))∧w=w':=by
 go_enter Tryz.func397,Tryz.ntmps397
 go_wp2
 all_goals
  go_ret
  exact⟨by rw[Pp];simp only[*];simp <;> omega,rfl⟩
def Jl (a b:Av):Int:=if a=b then 0 else or4 (Pp a.t b.t) (Ee a.d.1 b.d.1) (Ee a.d.2 b.d.2) (Ee a.q b.q)
def meq (a b:Av):Bool:=decide (a=b)
theorem Nh (a b:Av) (w:World):(binOp .eql 249 (Dh a) (Dh b)).run Tryz.prog w = .ok (.bool (meq a b)) w:=by
 obtain⟨⟨a1,a2⟩,a3,a4⟩:=a
 obtain⟨⟨b1,b2⟩,b3,b4⟩:=b
 have e:meq ⟨(a1,a2),a3,a4⟩ ⟨(b1,b2),b3,b4⟩=(decide (a1=b1)&&(decide (a2=b2)&&(decide (a3=b3)&&decide (a4=b4)))):=by unfold meq;rw[Bool.eq_iff_iff];simp[and_assoc]
 rw[e]
 simp[go_sem]
 by_cases h1:a1=b1 <;> by_cases h2:a2=b2 <;> by_cases h3:a3=b3 <;> by_cases h4:a4=b4 <;> simp[h1,h2,h3,h4] <;> omega
theorem Ao1 {a b:Av}:meq a b=true↔a=b:=by unfold meq;exact decide_eq_true_iff
theorem Amx {a b:Av}:meq a b=false↔a≠b:=by unfold meq;exact decide_eq_false_iff_not
theorem Xc (a1 a2 a3 b1 b2 b3:Int) (a4 b4:Nat) (r:Bool) (h:meq ⟨(a1,a2),a3,a4⟩ ⟨(b1,b2),b3,b4⟩=r) (w:World):(binOp .eql 249 (.agg #[.int .i64 a1,.int .i64 a2,.int .i64 a3,.int .u64 a4]) (.agg #[.int .i64 b1,.int .i64 b2,.int .i64 b3,.int .u64 b4])).run Tryz.prog w = .ok (.bool r) w:=by
 have k:=Nh ⟨(a1,a2),a3,a4⟩ ⟨(b1,b2),b3,b4⟩ w
 rw[h] at k
 exact k
theorem Qp (a b:Av) (w:World):Calls Tryz.prog 342 #[Dh a,Dh b] w (Ret w (IsI (Jl a b))):=by
 obtain⟨⟨a1,a2⟩,a3,a4⟩:=a
 obtain⟨⟨b1,b2⟩,b3,b4⟩:=b
 unfold Dh
 simp only
 by_cases hab:(⟨(a1,a2),a3,a4⟩:Av)=⟨(b1,b2),b3,b4⟩
 ·have e:Jl ⟨(a1,a2),a3,a4⟩ ⟨(b1,b2),b3,b4⟩=0:=by unfold Jl;rw[if_pos hab]
  have R:=Xc a1 a2 a3 b1 b2 b3 a4 b4 true (Ao1.2 hab)
  rw[e]
  clear e hab
  go_enter Tryz.func342,Tryz.ntmps342
  go_wp2
  go_ret
  exact Gz rfl (by go_grown)
 ·have e:Jl ⟨(a1,a2),a3,a4⟩ ⟨(b1,b2),b3,b4⟩=or4 (Pp a4 b4) (Ee a1 b1) (Ee a2 b2) (Ee a3 b3):=by unfold Jl;rw[if_neg hab]
  have R:=Xc a1 a2 a3 b1 b2 b3 a4 b4 false (Amx.2 hab)
  have c0:=fun w=>Aer a4 b4 w
  have c1:=fun w=>Ge a1 b1 w
  have c2:=fun w=>Ge a2 b2 w
  have c3:=fun w=>Ge a3 b3 w
  generalize Pp a4 b4=p at *
  generalize Ee a1 b1=q at *
  generalize Ee a2 b2=r at *
  generalize Ee a3 b3=s at *
  rw[e]
  clear e hab
  go_enter Tryz.func342,Tryz.ntmps342
  go_wp2_with fail
  clear R
  go_region_held3 (fun w'=>w'.cell? ⟨w.heap.size,0,none⟩=some (.int .i64 a1)∧w'.cell? ⟨w.heap.size,1,none⟩=some (.int .i64 a2)∧w'.cell? ⟨w.heap.size,2,none⟩=some (.int .i64 a3)∧w'.cell? ⟨w.heap.size,3,none⟩=some (.int .u64 a4)∧
    w'.cell? ⟨w.heap.size+1,0,none⟩=some (.int .i64 b1)∧w'.cell? ⟨w.heap.size+1,1,none⟩=some (.int .i64 b2)∧w'.cell? ⟨w.heap.size+1,2,none⟩=some (.int .i64 b3)∧w'.cell? ⟨w.heap.size+1,3,none⟩=some (.int .u64 b4)) (simp[go_sem,World.cell?_alloc_past])
   (first
    | (go_at_call 397;((with_reducible refine(c0 _).mono ?_);rintro e w' ⟨rfl,rfl⟩))
    | (go_at_call 398;((with_reducible refine(c1 _).mono ?_);rintro e w' ⟨rfl,rfl⟩))
    | (go_at_call 398;((with_reducible refine(c2 _).mono ?_);rintro e w' ⟨rfl,rfl⟩))
    | (go_at_call 398;((with_reducible refine(c3 _).mono ?_);rintro e w' ⟨rfl,rfl⟩))
    | (go_at_call 396;((with_reducible refine(Au2 p q r s _ _ (by simp[go_sem]) (by simp[go_sem]) (by simp[go_sem]) (by simp[go_sem])).mono ?_);rintro e w' ⟨rfl,rfl⟩)))
  go_wp2
  go_ret
  exact Gz rfl (by go_grown)
def El:Av:=⟨(0,0),0,0⟩
def Da (out:Av) (l:List Av):Av:=l.foldl (fun o x=>if 0<Jl x o then x else o) out
theorem Sn {a o:Av} {t:List Av} (h:0<Jl a o):Da o (a::t)=Da a t:=by unfold Da;rw[List.foldl_cons,if_pos h]
theorem Ui {a o:Av} {t:List Av} (h:¬0<Jl a o):Da o (a::t)=Da o t:=by unfold Da;rw[List.foldl_cons,if_neg h]
structure Aaw (w:World) (N:Nat) (acc:Av) (wr:World):Prop where
 le:Below N w wr
 res:Bx wr N [.int .i64 0,.int .i64 0,.int .i64 0,.int .u64 0]
 out:Bx wr (N+1) [.int .i64 acc.d.1,.int .i64 acc.d.2,.int .i64 acc.q,.int .u64 acc.t]
theorem Aaw.mono {w:World} {N:Nat} {acc:Av} {wr w1:World} (h:Aaw w N acc wr) (hb:Below wr.heap.size wr w1):Aaw w N acc w1:=
 ⟨Ae h.le (Ak hb (by have:=h.res.lt;omega)),h.res.mono hb,h.out.mono hb⟩
theorem Adi (w:World) (o:Obj) (cs:Array Value) (ty:TypeId):Bx ((w.alloc o).alloc (.cells cs ty)) (w.heap.size+1) cs.toList:=by
 have:=Bx.new (w.alloc o) cs ty
 rwa [World.size_alloc] at this
theorem Aaw.upd {w:World} {N:Nat} {acc m:Av} {wr w1:World} (h:Aaw w N acc wr) (hb:Bx w1 (N+1) [.int .i64 m.d.1,.int .i64 m.d.2,.int .i64 m.q,.int .u64 m.t]) (hu:Upd (N+1) wr w1):Aaw w N m w1:=
 ⟨Ae h.le (hu.below (by omega)),hu.bx h.res (by omega),hb⟩
def Au3 (w:World) (N:Nat) (m0:Av) (l:List Av) (i:Value) (wr:World):Prop:=∃ (k:Nat) (acc:Av),i = .int .i64 k∧k<=l.length∧Aaw w N acc wr∧Da m0 l=Da acc (l.drop k)
theorem Tz {A:Option Addr} {n c:Nat} {m0:Av} {l:List Av} {w:World} (h:Sl encM w A n c (m0::l)) :
  Calls Tryz.prog 341 #[.slice A n c,.func (.func 342) #[] #[]] w (Ret w (Is (Dh (Da m0 (m0::l))))):=by
 have hn:=h.big
 have hl:=h.len
 have h0:0<n:=by rw[hl];simp
 obtain⟨b0,o0,m,hA0,_,hm0,_,c0,c1,c2,c3⟩:=h.mark (k:=0) h0
 have:m0=m:=by simpa using hm0
 subst this
 simp only[Nat.zero_mul,Nat.add_zero] at c0 c1 c2 c3
 have hix0:=fun w=>(show(Instr.indexAt 244 (.slice A n c) (.int .i64 0)).run Tryz.prog w = .ok (.pointer (some ⟨b0,o0,none⟩)) w by rw[hA0];simp[go_sem,h0])
 have H:=Avp h;have HL:=Avp hl
 clear hA0 hm0 h hl
 generalize hL:m0::l=L at *
 obtain⟨N,hN⟩:∃ N,N=w.heap.size:=⟨_,rfl⟩
 have EN:=Avp hN
 go_enter Tryz.func341,Tryz.ntmps341
 go_wp2
 rw[<-hN]
 clear hix0 c0 c1 c2 c3 hN
 go_loopw [13] (fun i wr=>Au3 w N m0 L i wr) (fun i _=>n - (intOf i).toNat)
 case atStart=>exact⟨0,m0,rfl,Nat.zero_le _,by rw[EN.out];exact⟨by go_grown,(Bx.new w _ _).mono (by go_grown),Adi _ _ _ _⟩,by rw[List.drop_zero]⟩
 case round=>
  obtain⟨k,acc,rfl,hk,hg,hf⟩:=hrel
  have G:=Avp hg;have F:=Avp hf;have LK:=Avp hk
  clear hg hf hk
  by_cases hlt:k<n
  ·have hbw:Below w.heap.size w wr:=by rw[<-EN.out];exact G.out.le
   obtain⟨b,o,m,hA,_,hm,hd,c0,c1,c2,c3⟩:=(H.out.mono hbw).mark hlt
   have hix:=(show(Instr.indexAt 244 (.slice A n c) (.int .i64 (k:Int))).run Tryz.prog wr = .ok (.pointer (some ⟨b,o+k*4,none⟩)) wr by rw[hA];simp[go_sem,hlt])
   have D:=Avp hd;have LT:=Avp hlt
   have o0:=G.out.out.cell 0 rfl;have o1:=G.out.out.cell 1 rfl;have o2:=G.out.out.cell 2 rfl;have o3:=G.out.out.cell 3 rfl
   have hsz:N+1<wr.heap.size:=G.out.out.lt
   have hax:Below wr.heap.size wr (wr.alloc (.cells (Fj m) 249)):=by go_grown
   have G1:=Avp (G.out.mono hax)
   have X1:=Avp (Bx.new wr (Fj m) 249)
   have C:=Avp (fun w=>Qp m acc w)
   clear hm hd hA hbw hax
   by_cases hc:0<Jl m acc
   ·have hc':=decide_eq_true hc
    have HG:=Avp (show Da acc (m::L.drop (k+1))=Da m (L.drop (k+1)) from Sn hc)
    clear hc
    generalize Jl m acc=r at *
    go_wp2_with fail
    refine(C.out _).mono ?_
    rintro _ w1 ⟨_,rfl,hb1,rfl⟩
    have G2:=Avp (G1.out.mono hb1);have X2:=Avp (X1.out.mono hb1)
    have x0:=X2.out.cell 0 rfl;have x1:=X2.out.cell 1 rfl;have x2:=X2.out.cell 2 rfl;have x3:=X2.out.cell 3 rfl
    clear hb1 c0 c1 c2 c3 o0 o1 o2 o3 hix
    go_wp2_with ((with_reducible refine Ai (N+1) ?_ ?_);(next=>rfl))
    unfold Az
    refine Af (J:=N+1) rfl rfl rfl rfl rfl G2.out.out (show(Tryz.prog.info? 249).map (·.size)=some 4 by kernel_rfl) rfl (by simp[Value.oneCell']) ?_
    intro w9 hx9 hu9
    have G3:=Avp (G2.out.upd (m:=m) hx9 hu9)
    clear hx9 hu9 x0 x1 x2 x3 hsz
    go_wp2
    go_roundw
    case rel=>exact⟨k+1,m,by simp,by have:=LT.out;have:=HL.out;omega,G3.out,by rw[F.out,D.out,HG.out]⟩
    case measure=>simp[intOf];have:=LT.out;omega
   ·have hc':=decide_eq_false hc
    have HG:=Avp (show Da acc (m::L.drop (k+1))=Da acc (L.drop (k+1)) from Ui hc)
    clear hc
    generalize Jl m acc=r at *
    go_wp2_with fail
    refine(C.out _).mono ?_
    rintro _ w1 ⟨_,rfl,hb1,rfl⟩
    have G2:=Avp (G1.out.mono hb1)
    clear hb1 c0 c1 c2 c3 o0 o1 o2 o3 hix
    go_wp2
    go_roundw
    case rel=>exact⟨k+1,acc,by simp,by have:=LT.out;have:=HL.out;omega,G2.out,by rw[F.out,D.out,HG.out]⟩
    case measure=>simp[intOf];have:=LT.out;omega
  ·have hkn:k=n:=by have:=LK.out;have:=HL.out;omega
   subst hkn
   have hf:Da m0 L=acc:=by rw[F.out,List.drop_eq_nil_of_le (by rw[HL.out];exact Nat.le_refl _)];rfl
   have HF:=Avp hf
   have o0:=G.out.out.cell 0 rfl;have o1:=G.out.out.cell 1 rfl;have o2:=G.out.out.cell 2 rfl;have o3:=G.out.out.cell 3 rfl
   clear hf
   go_wp2_with ((with_reducible refine Ai N ?_ ?_);(next=>rfl))
   unfold Az
   refine Af (J:=N) rfl rfl rfl rfl rfl G.out.res (show(Tryz.prog.info? 249).map (·.size)=some 4 by kernel_rfl) rfl (by simp[Value.oneCell']) ?_
   intro w9 hx9 hu9
   have X9:=Avp hx9;have U9:=Avp hu9
   clear hx9 hu9 o0 o1 o2 o3
   go_wp2
   refine bodyPost_ret (v:=Dh acc) ?_ rfl ?_
   ·exact D5 Tryz.results341 rfl X9.out Tryz.underlying249 rfl (show(Tryz.prog.info? 249).map (·.size)=some 4 by kernel_rfl)
   have hw:=Ae G.out.le (U9.out.below (Nat.le_refl _))
   rw[EN.out] at hw
   exact⟨_,rfl,hw,by show Dh acc=_;rw[HF.out]⟩
def Gb (l:List Av):Av×Int:=if Fh l then (match l with | []=>(El,9) | m::t=>(Da m (m::t),0)) else (El,2)
def Ol (l:List Av):Nat×Int:=if Fh l then (if (Da El (El::l)).t=18446744073709551615 then (0,15) else ((Da El (El::l)).t+1,0)) else (0,2)
theorem K7 {N:Nat} {w w1 w2:World} (h:Below w.heap.size w w1) (u:Upd N w1 w2) (e:Hid (N=w.heap.size)):Below w.heap.size w w2:=Ae h (u.below (by rw[e.out];exact Nat.le_refl _))
abbrev Ul:Array Value:=#[.int .i64 0,.int .i64 0,.int .i64 0,.int .u64 0]
theorem Amo {A:Option Addr} {n c:Nat} {l:List Av} {w:World} (h:Sl encM w A n c l) :
  Calls Tryz.prog 264 #[.slice A n c] w (Ret w (Is (.tuple #[Dh (Gb l).1,.int .i64 (Gb l).2]))):=by
 have HB:=Avp (show Below w.heap.size w (w.alloc (.cells Ul 249)) by go_grown)
 have HC:=Avp (Acz (h.mono HB.out))
 have H:=Avp (h.mono HB.out)
 have HL:=Avp h.len
 clear h
 obtain⟨N,hN⟩:∃ N,N=w.heap.size:=⟨_,rfl⟩
 have EN:=Avp hN
 have X:=Avp (Bx.new w Ul 249)
 rw[<-hN] at X
 obtain⟨r,hr⟩:∃ r,r=Gb l:=⟨_,rfl⟩
 rw[<-hr]
 cases hv:Fh l with
 | false=>
  rw[hv] at HC
  have e:r=(El,2):=by rw[hr];unfold Gb;rw[if_neg (by simp[hv])]
  subst e
  clear hv hr
  go_enter Tryz.func264,Tryz.ntmps264
  go_wp2_with fail
  rw[<-hN]
  clear hN
  refine HC.out.mono ?_
  rintro _ w1 ⟨_,rfl,hb1,rfl⟩
  replace X:=Avp (X.out.mono hb1)
  replace HB:=Avp (HB.out.le hb1)
  clear hb1
  go_wp2_with ((with_reducible refine Ai (N) ?_ ?_);(next=>rfl))
  unfold Az
  refine Af (J:=N) rfl rfl rfl rfl rfl X.out (show(Tryz.prog.info? 249).map (·.size)=some 4 by kernel_rfl) rfl (by simp[Value.oneCell']) ?_
  intro w9 hx9 hu9
  have X9:=Avp hx9;have U9:=Avp hu9
  clear hx9 hu9
  go_wp2
  refine bodyPost_ret (v:=.tuple #[Dh El,.int .i64 2]) ?_ rfl ?_
  ·exact Ah Tryz.results264 rfl rfl X9.out Tryz.underlying249 rfl (show(Tryz.prog.info? 249).map (·.size)=some 4 by kernel_rfl)
  exact⟨_,rfl,K7 HB.out U9.out EN,rfl⟩
 | true=>
  rw[hv] at HC
  cases l with
  | nil=>
   have e:r=(El,9):=by rw[hr];rfl
   subst e
   clear hv hr
   obtain rfl:n=0:=HL.out
   go_enter Tryz.func264,Tryz.ntmps264
   go_wp2_with fail
   rw[<-hN]
   clear hN
   refine HC.out.mono ?_
   rintro _ w1 ⟨_,rfl,hb1,rfl⟩
   replace X:=Avp (X.out.mono hb1)
   replace HB:=Avp (HB.out.le hb1)
   clear hb1
   go_wp2_with ((with_reducible refine Ai (N) ?_ ?_);(next=>rfl))
   unfold Az
   refine Af (J:=N) rfl rfl rfl rfl rfl X.out (show(Tryz.prog.info? 249).map (·.size)=some 4 by kernel_rfl) rfl (by simp[Value.oneCell']) ?_
   intro w9 hx9 hu9
   have X9:=Avp hx9;have U9:=Avp hu9
   clear hx9 hu9
   go_wp2
   refine bodyPost_ret (v:=.tuple #[Dh El,.int .i64 9]) ?_ rfl ?_
   ·exact Ah Tryz.results264 rfl rfl X9.out Tryz.underlying249 rfl (show(Tryz.prog.info? 249).map (·.size)=some 4 by kernel_rfl)
   exact⟨_,rfl,K7 HB.out U9.out EN,rfl⟩
  | cons m t=>
   have e:r=(Da m (m::t),0):=by rw[hr];unfold Gb;rw[if_pos hv]
   subst e
   clear hv hr
   have hn0:((n:Int)==0)=false:=by have:=HL.out;simp at this;simp;omega
   have HG:=Avp (fun w1 hb1=>Tz (H.out.mono (w':=w1) hb1))
   generalize Da m (m::t)=g at *
   go_enter Tryz.func264,Tryz.ntmps264
   go_wp2_with fail
   rw[<-hN]
   clear hN
   refine HC.out.mono ?_
   rintro _ w1 ⟨_,rfl,hb1,rfl⟩
   have G1:=Avp (HG.out _ hb1)
   replace X:=Avp (X.out.mono hb1)
   replace HB:=Avp (HB.out.le hb1)
   clear hb1
   go_wp2_with fail
   refine G1.out.mono ?_
   rintro _ w2 ⟨_,rfl,hb2,rfl⟩
   replace X:=Avp (X.out.mono hb2)
   replace HB:=Avp (HB.out.le hb2)
   clear hb2 G1
   go_wp2_with ((with_reducible refine Ai (N) ?_ ?_);(next=>rfl))
   unfold Az
   refine Af (J:=N) rfl rfl rfl rfl rfl X.out (show(Tryz.prog.info? 249).map (·.size)=some 4 by kernel_rfl) rfl (by simp[Value.oneCell']) ?_
   intro w9 hx9 hu9
   have X9:=Avp hx9;have U9:=Avp hu9
   clear hx9 hu9
   go_wp2
   refine bodyPost_ret (v:=.tuple #[Dh g,.int .i64 0]) ?_ rfl ?_
   ·exact Ah Tryz.results264 rfl rfl X9.out Tryz.underlying249 rfl (show(Tryz.prog.info? 249).map (·.size)=some 4 by kernel_rfl)
   exact⟨_,rfl,K7 HB.out U9.out EN,rfl⟩
theorem Ag.oneNew {α:Type} (e:Enc α) (w:World) (x:α) (cs:Array Value) (hcs:cs.toList=e.enc x) (ty:TypeId) (hz:0<e.z):Ag e ty (w.alloc (.cells cs ty)) w.heap.size (.slice (some ⟨w.heap.size,0,none⟩) 1 1) [x]:=by
 have hall:e.all [x]=e.enc x:=by simp[Enc.all]
 refine⟨by rw[hall,e.len];simp,.inr ⟨w.heap.size,1,cs,rfl,Nat.le_refl _,heap_alloc_new w _,Nat.le_refl _,by unfold maxLen;decide,?_,?_⟩⟩
 ·rw[<-Array.length_toList,hcs,e.len];simp
 ·rw[hcs,hall];simp[<-e.len x]
theorem Lp:∀ (l:List Av) (o:Av),Da o l=o∨Da o l∈l
 | [],o=>.inl rfl
 | a::t,o=>by
  by_cases h:0<Jl a o
  ·rw[Sn h]
   rcases Lp t a with e | e
   ·exact .inr (by rw[e];exact List.mem_cons_self ..)
   ·exact .inr (List.mem_cons_of_mem _ e)
  ·rw[Ui h]
   rcases Lp t o with e | e
   ·exact .inl e
   ·exact .inr (List.mem_cons_of_mem _ e)
theorem Za {l:List Av} (h:∀ m∈l,m.t<=18446744073709551615):(Da El (El::l)).t<=18446744073709551615:=by
 rcases Lp (El::l) El with e | e
 ·rw[e];exact Nat.zero_le _
 ·rcases List.mem_cons.1 e with e | e
  ·rw[e];exact Nat.zero_le _
  ·exact h _ e
theorem Ajv {t:Nat} (h:t<18446744073709551615):IntKind.u64.wrap ((t:Int)+1)=((t+1:Nat):Int):=by
 rw[IntKind.wrap]
 simp[IntKind.signed,IntKind.bits]
 omega
theorem Yg (a b q t:Value) (w:World):(Instr.field 249 (.agg #[a,b,q,t]) 2).run Tryz.prog w = .ok t w:=by
 simp[Instr.field,asAgg,go_sem]
theorem Asq {A:Option Addr} {n c:Nat} {l:List Av} {w:World} (h:Sl encM w A n c l) (hs:Small n) (ht:∀ m∈l,m.t<=18446744073709551615) :
  Calls Tryz.prog 323 #[.slice A n c] w (Ret w (Is (.tuple #[.int .u64 ((Ol l).1:Nat),.int .i64 (Ol l).2]))):=by
 have HC:=Avp (Acz h)
 have H:=Avp h
 have HL:=Avp h.len;have HS:=Avp hs.out
 clear h hs
 obtain⟨r,hr⟩:∃ r,r=Ol l:=⟨_,rfl⟩
 rw[<-hr]
 cases hv:Fh l with
 | false=>
  rw[hv] at HC
  have e:r=(0,2):=by rw[hr];unfold Ol;rw[if_neg (by simp[hv])]
  subst e
  clear hv hr
  go_enter Tryz.func323,Tryz.ntmps323
  go_wp2_with fail
  refine HC.out.mono ?_
  rintro _ w1 ⟨_,rfl,hb1,rfl⟩
  have HB:=Avp hb1
  clear hb1
  go_wp2
  refine bodyPost_ret (v:=.tuple #[.int .u64 0,.int .i64 2]) (by simp[results,Tryz.results323,go_sem]) rfl ?_
  exact⟨_,rfl,HB.out,rfl⟩
 | true=>
  rw[hv] at HC
  have e:r=if (Da El (El::l)).t=18446744073709551615 then (0,15) else ((Da El (El::l)).t+1,0):=by rw[hr];unfold Ol;rw[if_pos hv]
  have ER:=Avp e
  clear hv hr e
  go_enter Tryz.func323,Tryz.ntmps323
  go_wp2_with fail
  refine HC.out.mono ?_
  rintro _ w1 ⟨_,rfl,hb1,rfl⟩
  have HB:=Avp hb1
  replace H:=Avp (H.out.mono hb1)
  clear hb1
  go_wp2_with (first
   | (at_builtin;refine Aj (B:=w1.heap.size) Aba rfl rfl Tryz.underlying244 rfl rfl (Ag.oneNew encM w1 El Ul rfl 249 (by decide)) (H.out.mono (by go_grown)) (by have:=HL.out;have:=HS.out;simp;omega) (by simp) ?_;intro v2 w2 o2 g2 _;have O2:=Avp o2;have G2:=Avp g2;clear o2 g2)
   | fail)
  obtain⟨A2,c2,e2,s2⟩:=Ag.sl O2.out
  subst e2
  have HQ:=Avp (Tz (m0:=El) (l:=l) s2)
  have hg2:Below w1.heap.size w1 w2:=(show Below w1.heap.size w1 (w1.alloc (.cells Ul 249)) by go_grown).grown G2.out (by simp) (fun q hq=>by cases hq;exact Nat.le_refl _)
  replace HB:=Avp (HB.out.le hg2)
  clear hg2
  have TB:=Avp (Za ht)
  generalize Da El (El::l)=g at *
  refine HQ.out.mono ?_
  rintro _ w3 ⟨_,rfl,hb3,rfl⟩
  replace HB:=Avp (HB.out.le hb3)
  clear hb3
  have hft:=Yg (.int .i64 g.d.1) (.int .i64 g.d.2) (.int .i64 g.q) (.int .u64 g.t)
  by_cases hm:g.t=18446744073709551615
  ·have e1:((g.t:Int)==18446744073709551615)=true:=by rw[hm];rfl
   have E:=Avp (show r=(0,15) by rw[ER.out,if_pos hm])
   clear hm
   go_wp2
   refine bodyPost_ret (v:=.tuple #[.int .u64 0,.int .i64 15]) (by simp[results,Tryz.results323,go_sem]) rfl ?_
   exact⟨_,rfl,HB.out,by rw[E.out];rfl⟩
  ·have e1:((g.t:Int)==18446744073709551615)=false:=by rw[beq_eq_false_iff_ne];omega
   have E:=Avp (show r=(g.t+1,0) by rw[ER.out,if_neg hm])
   have W:=Ajv (show g.t<18446744073709551615 by have:=TB.out;omega)
   clear hm
   go_wp2
   refine bodyPost_ret (v:=.tuple #[.int .u64 ((g.t+1:Nat):Int),.int .i64 0]) (by simp[results,Tryz.results323,go_sem]) rfl ?_
   exact⟨_,rfl,HB.out,by rw[E.out];rfl⟩
def InD (D:Nat->Prop) (A:Option Addr):Prop:=∀ a,A=some a->D a.block
theorem InD.nil_ (D:Nat->Prop):InD D none:=fun _ e=>nomatch e
theorem InD.mono {D D':Nat->Prop} {A:Option Addr} (h:InD D A) (hd:∀ b,D b->D' b):InD D' A:=fun a e=>hd _ (h a e)
theorem Ag.inD {α:Type} {e:Enc α} {ty:TypeId} {w:World} {B:Nat} {A:Option Addr} {n c:Nat} {l:List α} (h:Ag e ty w B (.slice A n c) l):InD (fun b=>B<=b) A:=fun a ea=>(h.own a.block (by rw[ea];rfl)).1
def Jk (m:Av):Prop:=m.t<=18446744073709551615
abbrev As:=List UInt8×List Av
structure ItE where
 nm:List UInt8
 ms:List Av
 A:Option Addr
 n:Nat
 c:Nat
def ItE.s (e:ItE):As:=(e.nm,e.ms)
def Aro (e:ItE):Prop:=(∀ m∈e.ms,Jk m)∧e.nm.length<=1000000
def encIt:Enc ItE:=⟨2,fun s=>[Ac s.nm,.slice s.A s.n s.c],fun _=>rfl,fun s u hu=>by
 simp only[List.mem_cons,List.not_mem_nil,or_false] at hu
 rcases hu with rfl | rfl <;> rfl⟩
abbrev itV (e:ItE):Value:=.agg #[Ac e.nm,.slice e.A e.n e.c]
abbrev itC (e:ItE):Array Value:=#[Ac e.nm,.slice e.A e.n e.c]
theorem Ao9:Inf Tryz.prog 246 encIt 40:=by
 obtain⟨i,h1,h2,h3,h4⟩:=info_parts (P:=Tryz.prog) (show(Tryz.prog.info? 246).map (fun i=>(i.zero,i.size,i.bytes))=some (some (.agg #[.string .empty,.slice none 0 0]),2,40) by kernel_rfl)
 exact⟨⟨i,_,h1,h2,h3,h4,rfl⟩,by decide,by decide⟩
theorem Sl.item {w:World} {A:Option Addr} {n c:Nat} {l:List ItE} (h:Sl encIt w A n c l) {k:Nat} (hk:k<n):∃ b o m,A=some ⟨b,o,none⟩∧b<w.heap.size∧l[k]?=some m∧l.drop k=m::l.drop (k+1)∧
  w.cell? ⟨b,o+k*2,none⟩=some (Ac m.nm)∧w.cell? ⟨b,o+k*2+1,none⟩=some (.slice m.A m.n m.c):=by
 obtain⟨b,o,m,h1,h2,h3,h4,h5⟩:=h.at_ hk
 exact⟨b,o,m,h1,h2,h3,h4,h5 0 _ rfl,h5 1 _ rfl⟩
structure Lu (D:Nat->Prop) (w:World) (e:ItE):Prop where
 sl:Sl encM w e.A e.n e.c e.ms
 ind:InD D e.A
 tm:Aro e
theorem Lu.mono {D D':Nat->Prop} {w w':World} {e:ItE} (h:Lu D w e) (hb:Below w.heap.size w w') (hd:∀ b,D b->D' b):Lu D' w' e:=⟨h.sl.mono hb,h.ind.mono hd,h.tm⟩
def Fi (D:Nat->Prop) (w:World) (A:Option Addr) (n c:Nat) (l:List As):Prop:=∃ es:List ItE,es.map ItE.s=l∧Sl encIt w A n c es∧InD D A∧∀ e∈es,Lu D w e
theorem Fi.mono {D D':Nat->Prop} {w w':World} {A:Option Addr} {n c:Nat} {l:List As} (h:Fi D w A n c l) (hb:Below w.heap.size w w') (hd:∀ b,D b->D' b):Fi D' w' A n c l:=
 let ⟨es,e,h1,h2,h3⟩:=h;⟨es,e,h1.mono hb,h2.mono hd,fun x hx=>(h3 x hx).mono hb hd⟩
theorem Ag.zero {α:Type} (e:Enc α) (ty:TypeId) (w:World):Ag e ty (w.alloc (.cells #[] ty)) w.heap.size (.slice (some ⟨w.heap.size,0,none⟩) 0 0) []:=
 ⟨by simp[Enc.all],.inr ⟨w.heap.size,0,#[],rfl,Nat.le_refl _,heap_alloc_new w _,Nat.le_refl _,by unfold maxLen;omega,by simp,by simp[Enc.all]⟩⟩
theorem Arv {A:Option Addr} {n c:Nat} {l:List Av} {w:World} (h:Sl encM w A n c l) (hs:Small n):Calls Tryz.prog 335 #[.slice A n c] w (Ret w (M0 encM 249 w.heap.size l)):=by
 have hq:=fun w a n c=>Lib.run_eql_slice_nil (P:=Tryz.prog) w 244 249 a n c 0 0 Tryz.underlying244
 have HS:=Avp hs.out;have HL:=Avp h.len
 cases A with
 | none=>
  have h1:=h.nil rfl
  have h2:=h.cap
  have h3:n=0:=by omega
  subst h1 h3
  have:l=[]:=List.eq_nil_of_length_eq_zero h.len.symm
  subst this
  clear h h2 hs
  go_enter Tryz.func335,Tryz.ntmps335
  go_wp2
  go_ret
  exact⟨_,rfl,Below.refl _ _,Ag.nil_ _ _ _ _⟩
 | some a=>
  have HB:=Avp ((Below.refl w.heap.size w).alloc (Nat.le_refl _) (.cells #[] 249))
  have H:=Avp (h.mono HB.out)
  have HZ:=Avp (Ag.zero encM 249 w)
  clear h hs
  go_enter Tryz.func335,Tryz.ntmps335
  go_wp2_with (first
   | (at_builtin;refine Aj (B:=w.heap.size) (l:=([]:List Av)) Aba rfl rfl Tryz.underlying244 rfl rfl HZ.out H.out (by have:=HL.out;have:=HS.out;simp;omega) (by simp) ?_;intro v1 w1 ho1 hg1 _;have HO1:=Avp ho1;have HG1:=Avp hg1;clear ho1 hg1)
   | fail)
  go_ret
  exact⟨_,rfl,HB.out.grown HG1.out (by simp) (fun q hq=>(HZ.out.own q hq).1),HO1.out⟩
theorem Anx {A:Option Addr} {n c:Nat} {l:List ItE} {w:World} (h:Sl encIt w A n c l) (hs:Small n):Calls Tryz.prog 334 #[.slice A n c] w (Ret w (M0 encIt 246 w.heap.size l)):=by
 have hq:=fun w a n c=>Lib.run_eql_slice_nil (P:=Tryz.prog) w 139 246 a n c 0 0 Tryz.underlying139
 have HS:=Avp hs.out;have HL:=Avp h.len
 cases A with
 | none=>
  have h1:=h.nil rfl
  have h2:=h.cap
  have h3:n=0:=by omega
  subst h1 h3
  have:l=[]:=List.eq_nil_of_length_eq_zero h.len.symm
  subst this
  clear h h2 hs
  go_enter Tryz.func334,Tryz.ntmps334
  go_wp2
  go_ret
  exact⟨_,rfl,Below.refl _ _,Ag.nil_ _ _ _ _⟩
 | some a=>
  have HB:=Avp ((Below.refl w.heap.size w).alloc (Nat.le_refl _) (.cells #[] 246))
  have H:=Avp (h.mono HB.out)
  have HZ:=Avp (Ag.zero encIt 246 w)
  clear h hs
  go_enter Tryz.func334,Tryz.ntmps334
  go_wp2_with (first
   | (at_builtin;refine Aj (B:=w.heap.size) (l:=([]:List ItE)) Ao9 rfl rfl Tryz.underlying139 rfl rfl HZ.out H.out (by have:=HL.out;have:=HS.out;simp;omega) (by simp) ?_;intro v1 w1 ho1 hg1 _;have HO1:=Avp ho1;have HG1:=Avp hg1;clear ho1 hg1)
   | fail)
  go_ret
  exact⟨_,rfl,HB.out.grown HG1.out (by simp) (fun q hq=>(HZ.out.own q hq).1),HO1.out⟩
def Eq:List UInt8->Bool
 | a::b::t=>!(a==32&&b==32)&&Eq (b::t)
 | _=>true
def Gn (s:List UInt8):Bool:=s.all (fun c=>decide (32<=c.toNat)&&decide (c.toNat<=126))&&decide (1<=s.length)&&decide (s.length<=64)&&decide (s.head?≠some 32)&&decide (s.getLast?≠some 32)&&Eq s
def Jd (c:UInt8):Bool:=(decide (97<=c.toNat)&&decide (c.toNat<=122))||(decide (48<=c.toNat)&&decide (c.toNat<=57))||c==45||c==95||c==46||c==47
def Dr (s:List UInt8):Bool:=s.all Jd&&decide (1<=s.length)&&decide (s.length<=64)
structure Bk (w:World):Prop where
 item:∀ w',Below w.heap.size w w'->∀ s:List UInt8,s.length<=1000000->Calls Tryz.prog 176 #[Ac s] w' (Ret w' (IsB (Gn s)))
 key:∀ w',Below w.heap.size w w'->∀ s:List UInt8,s.length<=1000000->Calls Tryz.prog 137 #[Ac s] w' (Ret w' (IsB (Dr s)))
theorem Bk.mono {w w':World} (h:Bk w) (hb:Below w.heap.size w w'):Bk w':=⟨fun w2 h2=>h.item w2 (hb.le h2),fun w2 h2=>h.key w2 (hb.le h2)⟩
def Ms (x:As):Bool:=!Gn x.1||(decide (x.2=[])||(!Ea (Dk x.2) || !Fh x.2))
theorem Aoj {x:As} {a b c d:Bool} (h1:Gn x.1=a) (h2:decide (x.2=[])=b) (h3:Ea (Dk x.2)=c) (h4:Fh x.2=d):Ms x=(!a||(b||(!c || !d))):=by unfold Ms;rw[h1,h2,h3,h4]
theorem Ps (w:World) (e:ItE):Below w.heap.size w (w.alloc (.cells (itC e) 246))∧(w.alloc (.cells (itC e) 246)).cell? ⟨w.heap.size,0,none⟩=some (Ac e.nm)∧(w.alloc (.cells (itC e) 246)).cell? ⟨w.heap.size,1,none⟩=some (.slice e.A e.n e.c):=
 ⟨by go_grown,by simp[go_sem],by simp[go_sem]⟩
theorem Yl {D:Nat->Prop} {e:ItE} {w:World} (h:Lu D w e) (hn:Bk w) (hs:Small e.n):Calls Tryz.prog 263 #[itV e] w (Ret w (IsB (Ms e.s))):=by
 obtain⟨a,h1⟩:∃ a,Gn e.nm=a:=⟨_,rfl⟩
 obtain⟨b,h2⟩:∃ a,decide (e.ms=[])=a:=⟨_,rfl⟩
 obtain⟨c,h3⟩:∃ a,Ea (Dk e.ms)=a:=⟨_,rfl⟩
 obtain⟨d,h4⟩:∃ a,Fh e.ms=a:=⟨_,rfl⟩
 have EV:=Avp (Aoj (x:=e.s) h1 h2 h3 h4)
 obtain⟨hb0,q0,q1⟩:=Ps w e
 have Q:=Avp q1
 have HB:=Avp hb0;have H:=Avp (h.sl.mono hb0);have HS:=Avp hs
 have C1:=Avp (hn.item _ hb0 e.nm h.tm.2)
 rw[h1] at C1
 have B2:=Avp (show((e.n:Int)==0)=b by
  rw[<-h2,h.sl.len]
  cases e.ms <;> simp <;> omega)
 rw[EV.out]
 clear hb0 q0 q1 h hn hs EV h2 h1
 obtain⟨N,hN⟩:∃ N,N=w.heap.size:=⟨_,rfl⟩
 rw[<-hN] at Q
 go_enter Tryz.func263,Tryz.ntmps263
 go_wp2_with fail
 rw[<-hN]
 clear hN
 refine C1.out.mono ?_
 rintro _ w1 ⟨_,rfl,hb1,rfl⟩
 replace H:=Avp (H.out.mono hb1)
 replace HB:=Avp (HB.out.le hb1)
 replace Q:=Avp (Ad hb1 Q.out)
 clear hb1 C1
 cases a with
 | false=>
  go_wp2
  go_ret
  exact Ay rfl HB.out
 | true=>
  have q:=Q.out;have b2:=B2.out
  cases b with
  | true=>
   go_wp2
   go_ret
   exact Ay rfl HB.out
  | false=>
   have I:=Avp (Aop H.out HS.out)
   rw[h3] at I
   go_wp2_with fail
   refine I.out.mono ?_
   rintro _ w2 ⟨_,rfl,hb2,rfl⟩
   replace H:=Avp (H.out.mono hb2)
   replace HB:=Avp (HB.out.le hb2)
   replace Q:=Avp (Ad hb2 Q.out)
   clear hb2 I q
   have q:=Q.out
   cases c with
   | false=>
    go_wp2
    go_ret
    exact Ay rfl HB.out
   | true=>
    have V:=Avp (Aom H.out)
    rw[h4] at V
    go_wp2_with fail
    refine V.out.mono ?_
    rintro _ w3 ⟨_,rfl,hb3,rfl⟩
    replace HB:=Avp (HB.out.le hb3)
    clear hb3 V q
    cases d with
    | false=>
     go_wp2
     go_ret
     exact Ay rfl HB.out
    | true=>
     go_wp2
     go_ret
     exact Ay rfl HB.out
def Yo (x:As):Int×Int:=if Ms x then (0,2) else ((Gb x.2).1.q,(Gb x.2).2)
theorem Ava {D:Nat->Prop} {e:ItE} {w:World} (h:Lu D w e) (hn:Bk w) (hs:Small e.n):Calls Tryz.prog 192 #[itV e] w (Ret w (Is (.tuple #[.int .i64 (Yo e.s).1,.int .i64 (Yo e.s).2]))):=by
 obtain⟨hb0,q0,q1⟩:=Ps w e
 have Q:=Avp q1
 have HB:=Avp hb0;have H:=Avp (h.sl.mono hb0)
 have C1:=Avp (Yl (h.mono hb0 fun _ x=>x) (hn.mono hb0) hs)
 obtain⟨r,hr⟩:∃ r,r=Yo e.s:=⟨_,rfl⟩
 rw[<-hr]
 clear hn hs h q0 hb0
 obtain⟨N,hN⟩:∃ N,N=w.heap.size:=⟨_,rfl⟩
 rw[<-hN] at Q
 cases hv:Ms e.s with
 | true=>
  rw[hv] at C1
  have er:r=(0,2):=by rw[hr];unfold Yo;rw[if_pos hv]
  subst er
  clear hr hv q1
  go_enter Tryz.func192,Tryz.ntmps192
  go_wp2_with fail
  refine C1.out.mono ?_
  rintro _ w1 ⟨_,rfl,hb1,rfl⟩
  replace HB:=Avp (HB.out.le hb1)
  clear hb1 C1 hN
  go_wp2
  refine bodyPost_ret (v:=.tuple #[.int .i64 0,.int .i64 2]) (by simp[results,Tryz.results192,go_sem]) rfl ?_
  exact⟨_,rfl,HB.out,rfl⟩
 | false=>
  rw[hv] at C1
  have er:r=((Gb e.ms).1.q,(Gb e.ms).2):=by rw[hr];unfold Yo;rw[if_neg (by simp[hv])];rfl
  subst er
  clear hr hv
  go_enter Tryz.func192,Tryz.ntmps192
  go_wp2_with fail
  refine C1.out.mono ?_
  rintro _ w1 ⟨_,rfl,hb1,rfl⟩
  rw[<-hN]
  replace H:=Avp (H.out.mono hb1)
  replace HB:=Avp (HB.out.le hb1)
  replace Q:=Avp (Ad hb1 Q.out)
  clear hb1 C1 hN q1
  have q:=Q.out
  have G:=Avp (Amo H.out)
  generalize Gb e.ms=g at *
  go_wp2_with fail
  refine G.out.mono ?_
  rintro _ w2 ⟨_,rfl,hb2,rfl⟩
  replace HB:=Avp (HB.out.le hb2)
  clear hb2 q
  go_wp2
  refine bodyPost_ret (v:=.tuple #[.int .i64 g.1.q,.int .i64 g.2]) (by simp[results,Tryz.results192,go_sem]) rfl ?_
  exact⟨_,rfl,HB.out.le (by go_grown),rfl⟩
theorem Ah2 (g:Nat) (cb:Array Value) (p:ItE->Bool) (A:Option Addr) (n c:Nat) (l:List ItE) (w:World) (h:Sl encIt w A n c l)
  (eg:∀ args w,(callFunc g args).run Tryz.prog w = .ok (.enter g args) w) (hp:Ag4 itV w g cb l p) :
  Calls Tryz.prog 332 #[.slice A n c,.func (.func g) #[] cb] w (Ret w (IsI (Gp p 0 l))):=by
 have hn:=h.big
 have HP:=Avp hp;have H:=Avp h;clear hp h
 go_enter Tryz.func332,Tryz.ntmps332
 go_wp2
 go_loopw [8] (fun i wr=>H9 w n l p i wr) (fun i _=>n - (intOf i).toNat)
 case atStart=>exact⟨0,rfl,by omega,Below.refl _ _,by simp⟩
 case round=>
  obtain⟨k,rfl,hk,hb,hs⟩:=hrel
  have HS:=Avp hs;have HB:=Avp hb
  clear hs hb
  by_cases hlt:k<n
  ·obtain⟨b,o,m,hA,hbk,hm,hd,cs⟩:=(H.out.mono HB.out).item (k:=k) hlt
   obtain⟨c0,c1⟩:=cs
   have hix:=(show(Instr.indexAt 139 (.slice A n c) (.int .i64 (k:Int))).run Tryz.prog wr = .ok (.pointer (some ⟨b,o+k*2,none⟩)) wr by rw[hA];simp[go_sem,hlt])
   have D1:=Avp hd
   have cp:=HP.out _ HB.out m (List.mem_of_getElem? hm)
   have LT:=Avp hlt
   clear hd hm hA
   cases hl:p m with
   | true=>
    rw[hl] at cp
    have CP:=Avp cp;have HL:=Avp hl;clear hl cp
    go_wp2_with (first | ((with_reducible refine CP.out.mono ?_);rintro e w1 ⟨_,rfl,hb1,rfl⟩))
    go_ret
    exact⟨_,rfl,HB.out.le hb1,by rw[HS.out,D1.out,Gp,HL.out];rfl⟩
   | false=>
    rw[hl] at cp
    have CP:=Avp cp;have HL:=Avp hl;clear hl cp
    go_wp2_with (first | ((with_reducible refine CP.out.mono ?_);rintro e w1 ⟨_,rfl,hb1,rfl⟩))
    go_roundw
    case rel=>exact H9.next HB.out hb1 LT.out D1.out HS.out HL.out
    case measure=>simp[intOf];have:=LT.out;omega
  ·have LN:=Avp (show l.length<=k by have:=H.out.len;omega)
   go_wp2
   go_ret
   exact⟨_,rfl,HB.out,by rw[HS.out,List.drop_eq_nil_of_le LN.out];rfl⟩
theorem Aiz:∀ args w,(callFunc 333 args).run Tryz.prog w = .ok (.enter 333 args) w:=enters_of Tryz.func333 (by kernel_rfl) rfl
theorem Aur {e:ItE} {nm:List UInt8} {J:Nat} {w:World} (h:w.cell? ⟨J,0,none⟩=some (Ac nm)):Calls Tryz.prog 333 #[itV e,.pointer (some ⟨J,0,none⟩)] w (Ret w (IsB (decide (e.nm=nm)))):=by
 obtain⟨hb0,q0,q1⟩:=Ps w e
 have hj:=World.block_lt_of_cell? w _ h
 simp only at hj
 obtain⟨r,hr⟩:∃ r,decide (e.nm=nm)=r:=⟨_,rfl⟩
 have hr2:(e.nm==nm)=r:=by rw[<-hr,Bool.eq_iff_iff];simp
 rw[hr]
 have HB:=Avp hb0;have HR:=Avp hr2
 clear q0 q1 hb0 hr hr2
 go_enter Tryz.func333,Tryz.ntmps333
 go_wp2
 go_ret
 exact Ay HR.out HB.out
def Aly (l:List As) (nm:List UInt8):Int:=Gp (fun x=>decide (x.1=nm)) 0 l
theorem Ws {α β:Type} (f:α->β) (p:β->Bool):∀ (l:List α) (k:Nat),Gp p k (l.map f)=Gp (fun x=>p (f x)) k l
 | [],_=>rfl
 | a::t,k=>by simp only[List.map_cons,Gp];rw[Ws f p t (k+1)]
theorem Arm {D:Nat->Prop} {A:Option Addr} {n c:Nat} {l:List As} {nm:List UInt8} {w:World} (h:Fi D w A n c l):Calls Tryz.prog 261 #[.slice A n c,Ac nm] w (Ret w (IsI (Aly l nm))):=by
 obtain⟨es,rfl,h1,_,_⟩:=h
 have hb0:Below w.heap.size w (w.alloc (.cells #[Ac nm] 9)):=by go_grown
 have q0:(w.alloc (.cells #[Ac nm] 9)).cell? ⟨w.heap.size,0,none⟩=some (Ac nm):=by simp[go_sem]
 have C:=Avp (Ah2 333 #[.pointer (some ⟨w.heap.size,0,none⟩)] (fun e=>decide (e.nm=nm)) A n c es _ (h1.mono hb0) Aiz (fun w' hb x _=>Aur (Ad hb q0)))
 have e:=Ws ItE.s (fun x:As=>decide (x.1=nm)) es 0
 unfold Aly
 rw[e]
 have HB:=Avp hb0
 clear e q0 hb0 h1
 go_enter Tryz.func261,Tryz.ntmps261
 go_wp2_with fail
 refine C.out.mono ?_
 rintro _ w1 ⟨_,rfl,hb1,rfl⟩
 replace HB:=Avp (HB.out.le hb1)
 clear hb1
 go_wp2
 go_ret
 exact⟨_,rfl,HB.out,rfl⟩
theorem Enc.all_set {α:Type} {e:Enc α}:∀ (l:List α) (k j:Nat) (x y:α) (u:Value),l[k]?=some x->e.enc y=(e.enc x).set j u->j<e.z->e.all (l.set k y)=(e.all l).set (k*e.z+j) u
 | [],k,j,x,y,u,h,_,_=>by simp at h
 | a::l,0,j,x,y,u,h,hj,hz=>by
  simp at h;subst h
  rw[List.set_cons_zero,Enc.all_cons,Enc.all_cons,hj,Nat.zero_mul,Nat.zero_add,List.set_append_left _ _ (by rw[e.len];exact hz)]
 | a::l,k+1,j,x,y,u,h,hj,hz=>by
  have ih:=Enc.all_set l k j x y u (by simpa using h) hj hz
  rw[List.set_cons_succ,Enc.all_cons,Enc.all_cons,ih,List.set_append_right _ _ (by rw[e.len,Nat.add_mul];omega)]
  congr 2
  rw[e.len,Nat.add_mul];omega
theorem Ag.put {α:Type} {e:Enc α} {ty:TypeId} {w:World} {B g n cap:Nat} {l:List α} (h:Ag e ty w B (.slice (some ⟨g,0,none⟩) n cap) l) {k j:Nat} {x y:α} (hk:l[k]?=some x) (u:Value) (hj:e.enc y=(e.enc x).set j u) (hz:j<e.z) :
  Ag e ty (w.setCell ⟨g,k*e.z+j,none⟩ u) B (.slice (some ⟨g,0,none⟩) n cap) (l.set k y):=by
 have hn:n=l.length:=by
  rcases h.2 with⟨h',_⟩ | ⟨g',cap',cur,h',_⟩
  ·cases h'
  ·cases h';rfl
 unfold Ag at h ⊢
 rw[List.length_set,Enc.all_set l k j x y u hk hj hz]
 rw[hn] at h ⊢
 exact(World.ownsRow.stored h (k*e.z+j) u).1
theorem Ag.head {α:Type} {e:Enc α} {ty:TypeId} {w:World} {B:Nat} {v:Value} {l:List α} (h:Ag e ty w B v l) (hl:l≠[]):∃ g cap,v = .slice (some ⟨g,0,none⟩) l.length cap∧B<=g∧g<w.heap.size:=by
 rcases h.2 with⟨_,h0⟩ | ⟨g,cap,cur,rfl,hb,hh,_⟩
 ·exact absurd (List.eq_nil_of_length_eq_zero h0) hl
 ·exact⟨g,cap,rfl,hb,(Array.getElem?_eq_some_iff.1 hh).1⟩
theorem Lu.upd {D:Nat->Prop} {w w':World} {e:ItE} {g:Nat} (h:Lu D w e) (hu:Upd g w w') (hg:¬D g):Lu D w' e:=⟨h.sl.wrote hu.wrote fun a ea hb=>hg (hb ▸ h.ind a ea),h.ind,h.tm⟩
theorem Ag.itemAt {w:World} {B g cap n:Nat} {l:List ItE} (h:Ag encIt 246 w B (.slice (some ⟨g,0,none⟩) n cap) l) {k:Nat} {x:ItE} (hk:l[k]?=some x) :
  w.cell? ⟨g,k*2+1,none⟩=some (.slice x.A x.n x.c)∧w.frozen? ⟨g,k*2+1,none⟩=false:=by
 have h':w.ownsRow B 246 2 (.slice (some ⟨g,0,none⟩) n cap) l.length (encIt.all l):=h
 have hn:n=l.length:=by
  rcases h.2 with⟨h',_⟩ | ⟨g',cap',cur,h',_⟩
  ·cases h'
  ·cases h';rfl
 have:=World.ownsRow.cells (v:=.slice (some ⟨g,0,none⟩) n cap) h rfl _ _ (Enc.all_get l k x hk 1 _ rfl)
 rw[Bz,Nat.zero_add] at this
 exact⟨this,World.ownsRow.frozenAt (by rw[<-hn] at h';exact h') _⟩
structure Aat (w:World) (g cap n:Nat) (es:List ItE) (k:Nat) (es':List ItE) (wr:World):Prop where
 le:Below w.heap.size w wr
 same:es'.map ItE.s=es.map ItE.s
 row:Ag encIt 246 wr w.heap.size (.slice (some ⟨g,0,none⟩) n cap) es'
 fresh:∀ j x,es'[j]?=some x->j<k->Lu (fun b=>w.heap.size<=b∧b≠g) wr x
 rest:es'.drop k=es.drop k
theorem Aat.mono {w:World} {g cap n k:Nat} {es es':List ItE} {wr w1:World} (h:Aat w g cap n es k es' wr) (hb:Below wr.heap.size wr w1):Aat w g cap n es k es' w1:=
 ⟨h.le.le hb,h.same,h.row.mono hb,fun j x hj hk=>(h.fresh j x hj hk).mono hb fun _ x=>x,h.rest⟩
theorem Aat.step {w:World} {g cap n k:Nat} {es es':List ItE} {wr:World} {x y:ItE} (h:Aat w g cap n es k es' wr) (hx:es'[k]?=some x) (hy:y.s=x.s) (hnm:y.nm=x.nm) (hi:Lu (fun b=>w.heap.size<=b∧b≠g) wr y) :
  Aat w g cap n es (k+1) (es'.set k y) (wr.setCell ⟨g,k*2+1,none⟩ (.slice y.A y.n y.c)):=by
 have hu:=Iw (w:=wr) g (k*2+1) (.slice y.A y.n y.c)
 have hg:w.heap.size<=g:=(h.row.own g rfl).1
 have hkl:=(List.getElem?_eq_some_iff.1 hx).1
 refine⟨Ae h.le (hu.below hg),?_,?_,fun j z hj hk=>?_,?_⟩
 ·rw[<-h.same]
  refine List.ext_getElem? fun j=>?_
  rw[List.getElem?_map,List.getElem?_map,List.getElem?_set]
  by_cases hkj:k=j
  ·subst hkj
   rw[if_pos rfl,if_pos hkl,hx];simp[hy]
  ·rw[if_neg hkj]
 ·exact h.row.put (j:=1) hx _ (by simp[encIt,hnm]) (by decide)
 ·rw[List.getElem?_set] at hj
  by_cases hkj:k=j
  ·subst hkj
   rw[if_pos rfl,if_pos hkl] at hj
   cases hj
   exact hi.upd hu (fun hh=>hh.2 rfl)
  ·rw[if_neg hkj] at hj
   exact(h.fresh j z hj (by omega)).upd hu (fun hh=>hh.2 rfl)
 ·rw[List.drop_set_of_lt (by omega),<-List.drop_drop,h.rest,List.drop_drop]
def As3 (w:World) (g cap n:Nat) (es:List ItE) (i:Value) (wr:World):Prop:=∃ (k:Nat) (es':List ItE),i = .int .i64 k∧k<=n∧Aat w g cap n es k es' wr
def Wz (B:Nat) (l:List As) (w:World) (v:Value):Prop:=∃ A n c,v = .slice A n c∧Fi (fun b=>B<=b) w A n c l
theorem App {D:Nat->Prop} {A:Option Addr} {n c:Nat} {l:List As} {w:World} (h:Fi D w A n c l) (hs:Small n) (hm:∀ x∈l,Small x.2.length):Calls Tryz.prog 262 #[.slice A n c] w (Ret w (Wz w.heap.size l)):=by
 obtain⟨es,rfl,h1,_,h3⟩:=h
 have hn:=h1.big;have hl:=h1.len
 have C:=Avp (Anx h1 hs)
 have H:=Avp h1;have HI:=Avp h3;have HS:=Avp hs;have HL:=Avp hl
 have HM:=Avp (show ∀ e∈es,Small e.ms.length from fun e he=>hm e.s (List.mem_map.2 ⟨e,he,rfl⟩))
 clear h1 h3 hs hm hl
 by_cases hnil:es=[]
 ·subst hnil
  obtain rfl:n=0:=HL.out
  go_enter Tryz.func262,Tryz.ntmps262
  go_wp2_with fail
  refine C.out.mono ?_
  rintro _ w1 ⟨v,rfl,hb1,ho⟩
  have HB:=Avp hb1;have HO:=Avp ho
  clear hb1 ho
  go_wp2
  refine wp_loop_rounds 1 ?_
  rw[rounds_succ]
  go_wp2
  go_ret
  obtain⟨A1,c1,rfl,s1⟩:=Ag.sl HO.out
  exact⟨_,rfl,HB.out,A1,_,c1,rfl,[],rfl,s1,Ag.inD HO.out,fun _ he=>nomatch he⟩
 ·go_enter Tryz.func262,Tryz.ntmps262
  go_wp2_with fail
  refine C.out.mono ?_
  rintro _ w1 ⟨v,rfl,hb1,ho⟩
  obtain⟨g,cap,rfl,hg1,hg2⟩:=Ag.head ho hnil
  rw[<-HL.out] at ho ⊢
  have HB:=Avp hb1;have HO:=Avp ho
  clear hb1 ho hnil hg1 hg2
  go_wp2
  go_loopw [10] (fun i wr=>As3 w g cap n es i wr) (fun i _=>n - (intOf i).toNat)
  case atStart=>exact⟨0,es,rfl,Nat.zero_le _,HB.out,rfl,HO.out,fun _ _ _ hk=>by omega,rfl⟩
  case round=>
   obtain⟨k,es',rfl,hk,hat⟩:=hrel
   have AT:=Avp hat;have LK:=Avp hk
   clear hat hk
   by_cases hlt:k<n
   ·obtain⟨b,o,m,hA,hbl,hm,hd,c0,c1⟩:=(H.out.mono AT.out.le).item hlt
    have hix:=(show(Instr.indexAt 139 (.slice A n c) (.int .i64 (k:Int))).run Tryz.prog wr = .ok (.pointer (some ⟨b,o+k*2,none⟩)) wr by rw[hA];simp[go_sem,hlt])
    have hix2:=fun w=>(show(Instr.indexAt 139 (.slice (some ⟨g,0,none⟩) n cap) (.int .i64 (k:Int))).run Tryz.prog w = .ok (.pointer (some ⟨g,k*2,none⟩)) w by simp[go_sem,hlt])
    have hx:es'[k]?=some m:=by
     have:=congrArg (·[0]?) (AT.out.rest.trans hd)
     simpa [List.getElem?_drop] using this
    have HX:=Avp hx;have LT:=Avp hlt
    have hmem:=List.mem_of_getElem? hm
    have hax:Below wr.heap.size wr (wr.alloc (.cells (itC m) 246)):=by go_grown
    have C2:=Avp (Arv (((HI.out m hmem).sl.mono AT.out.le).mono hax) (by have:=HM.out m hmem;rw[(HI.out m hmem).sl.len];exact this))
    have HT:=Avp (HI.out m hmem).tm
    have AT1:=Avp (AT.out.mono hax)
    clear hx hm hd hA hmem hax
    go_wp2_with fail
    refine C2.out.mono ?_
    rintro _ w2 ⟨v2,rfl,hb2,ho2⟩
    obtain⟨A2,c2,rfl,s2⟩:=Ag.sl ho2
    have AT2:=Avp (AT1.out.mono hb2)
    have hgw:g<wr.heap.size:=(AT.out.row.own g rfl).2
    have Y:=Avp (show Lu (fun b=>w.heap.size<=b∧b≠g) w2 ⟨m.nm,m.ms,A2,m.ms.length,c2⟩ from⟨s2,(Ag.inD ho2).mono fun b hb=>by have:=AT.out.le.size;simp at hb;omega,HT.out⟩)
    obtain⟨q1,q2⟩:=Ag.itemAt AT2.out.row HX.out
    clear hb2 ho2 s2 hix c0 c1 hgw
    go_wp2
    go_roundw
    case rel=>exact⟨k+1,_,by simp,LT.out,AT2.out.step (y:=⟨m.nm,m.ms,A2,m.ms.length,c2⟩) HX.out rfl rfl Y.out⟩
    case measure=>simp[intOf];have:=LT.out;omega
   ·obtain rfl:k=n:=by have:=LK.out;omega
    go_wp2
    go_ret
    refine⟨_,rfl,AT.out.le,_,_,_,rfl,es',AT.out.same,?_,Ag.inD AT.out.row,fun e he=>?_⟩
    ·obtain⟨A3,c3,e3,s3⟩:=Ag.sl AT.out.row
     cases e3
     exact s3
    ·obtain⟨j,hj⟩:=List.getElem?_of_mem he
     have hl2:es'.length=es.length:=by have:=congrArg List.length AT.out.same;simpa using this
     exact(AT.out.fresh j e hj (by have:=(List.getElem?_eq_some_iff.1 hj).1;have:=HL.out;omega)).mono (Below.refl _ _) fun b hb=>hb.1
def Jp (l:List As) (nm:List UInt8):Option As:=l.find? fun x=>decide (x.1=nm)
theorem Oc {α:Type} (p:α->Bool):∀ (l:List α) (k:Nat),(Gp p k l = -1∧l.find? p=none)∨∃ (i:Nat) (x:α),Gp p k l=((k+i:Nat):Int)∧l[i]?=some x∧l.find? p=some x
 | [],k=>.inl ⟨rfl,rfl⟩
 | a::t,k=>by
  by_cases h:p a=true
  ·exact .inr ⟨0,a,by simp[Gp,h],rfl,by simp[h]⟩
  ·rcases Oc p t (k+1) with⟨h1,h2⟩ | ⟨i,x,h1,h2,h3⟩
   ·exact .inl ⟨by simp only[Gp,h,if_false];simpa using h1,by simp[h,h2]⟩
   ·refine .inr ⟨i+1,x,?_,by simpa using h2,by simp[h,h3]⟩
    simp only[Gp,h]
    have e:k+1+i=k+(i+1):=by omega
    rw[e] at h1
    simpa using h1
theorem Sl.oneAt {α:Type} {e:Enc α} {w:World} {b o n c:Nat} {l:List α} (h:Sl e w (some ⟨b,o,none⟩) n c l) {i:Nat} {x:α} (hi:l[i]?=some x):Sl e w (some ⟨b,o+i*e.z,none⟩) 1 (c - i) [x]:=by
 have hil:=(List.getElem?_eq_some_iff.1 hi).1
 obtain⟨b',o',e1,hb,h1⟩:=h.cell i x hi
 cases e1
 refine⟨rfl,by have:=h.cap;have:=h.len;omega,by have:=h.max;omega,(fun e=>nomatch e),fun j y hj=>?_⟩
 obtain rfl:j=0:=by have:=(List.getElem?_eq_some_iff.1 hj).1;simpa using this
 simp at hj;subst hj
 exact⟨b,_,rfl,hb,fun j u hu=>by rw[Nat.zero_mul,Nat.add_zero];exact h1 j u hu⟩
def Aog (B:Nat) (o:Option As) (w:World) (v:Value):Prop:=match o with
 | none=>v = .tuple #[.agg #[Ac [],.slice none 0 0],.int .i64 9]
 | some x=>∃ e:ItE,v = .tuple #[itV e,.int .i64 0]∧e.s=x∧Lu (fun b=>B<=b) w e
abbrev itZ:Array Value:=#[Ac [],.slice none 0 0]
theorem Adj {D:Nat->Prop} {A:Option Addr} {n c:Nat} {l:List As} {nm:List UInt8} {w:World} (h:Fi D w A n c l) (hm:∀ x∈l,Small x.2.length):Calls Tryz.prog 191 #[.slice A n c,Ac nm] w (Ret w (Aog w.heap.size (Jp l nm))):=by
 have HB:=Avp (show Below w.heap.size w (w.alloc (.cells itZ 246)) by go_grown)
 have C:=Avp (Arm (nm:=nm) (h.mono HB.out fun _ x=>x))
 have H:=Avp (h.mono HB.out fun _ x=>x)
 have X:=Avp (Bx.new w itZ 246)
 have HM:=Avp hm
 obtain⟨N,hN⟩:∃ N,N=w.heap.size:=⟨_,rfl⟩
 have EN:=Avp hN
 rw[<-hN] at X
 rcases Oc (fun x:As=>decide (x.1=nm)) l 0 with⟨h1,h2⟩ | ⟨i,x,h1,h2,h3⟩
 ·have e:Jp l nm=none:=h2
  rw[e]
  rw[show Aly l nm = -1 from h1] at C
  clear h1 h2 e h hm
  go_enter Tryz.func191,Tryz.ntmps191
  go_wp2_with fail
  rw[<-hN]
  clear hN
  refine C.out.mono ?_
  rintro _ w1 ⟨_,rfl,hb1,rfl⟩
  replace X:=Avp (X.out.mono hb1)
  replace HB:=Avp (HB.out.le hb1)
  clear hb1
  go_wp2_with ((with_reducible refine Ai (N) ?_ ?_);(next=>rfl))
  unfold Az
  refine Af (J:=N) rfl rfl rfl rfl rfl X.out (show(Tryz.prog.info? 246).map (·.size)=some 2 by kernel_rfl) rfl (by simp[Value.oneCell']) ?_
  intro w9 hx9 hu9
  have X9:=Avp hx9;have U9:=Avp hu9
  clear hx9 hu9
  go_wp2
  refine bodyPost_ret (v:=.tuple #[.agg itZ,.int .i64 9]) ?_ rfl ?_
  ·exact Ah Tryz.results191 rfl rfl X9.out Tryz.underlying246 rfl (show(Tryz.prog.info? 246).map (·.size)=some 2 by kernel_rfl)
  exact⟨_,rfl,K7 HB.out U9.out EN,rfl⟩
 ·have e:Jp l nm=some x:=h3
  rw[e]
  rw[show Aly l nm=(i:Int) by have:=h1;rw[Nat.zero_add] at this;exact this] at C
  have HX:=Avp h2
  have hxm:=HM.out x (List.mem_of_getElem? h2)
  have HXS:=Avp hxm
  obtain⟨es,he,s1,i1,k1⟩:=H.out
  have hlen:=s1.len
  have hes:∃ y,es[i]?=some y∧y.s=x:=by
   rw[<-he,List.getElem?_map] at h2
   cases hy:es[i]? with
   | none=>rw[hy] at h2;cases h2
   | some y=>rw[hy] at h2;exact⟨y,rfl,by simpa using h2⟩
  obtain⟨y,hy,hys⟩:=hes
  have hin:i<n:=by have:=(List.getElem?_eq_some_iff.1 hy).1;omega
  obtain⟨b,o,m,hA,_,_,_⟩:=s1.at_ hin
  subst hA
  have hcap:=s1.cap
  have SI:=Avp (show Fi D (w.alloc (.cells itZ 246)) (some ⟨b,o+i*2,none⟩) 1 (c - i) [x] from⟨[y],by rw[List.map_singleton,hys],s1.oneAt hy,fun a ea=>by cases ea;exact i1 ⟨b,o,none⟩ rfl,fun z hz=>by rw[List.mem_singleton.1 hz];exact k1 y (List.mem_of_getElem? hy)⟩)
  have hsl:=fun w=>(show(Instr.sliceAt 139 (.slice (some ⟨b,o,none⟩) n c) (some (.int .i64 (i:Int))) (some (.int .i64 ((i:Int)+1))) none).run Tryz.prog w = .ok (.slice (some ⟨b,o+i*2,none⟩) 1 (c - i)) w by
   have e1:(0:Int)<=(i:Int):=by omega
   have e2:(i:Int)<=(i:Int)+1:=by omega
   have e3:(i:Int)+1<=(c:Int):=by omega
   have e4:¬c=i:=by omega
   have e5:((i:Int)+1).toNat=i+1:=by omega
   simp[go_sem,e1,e2,e3,e4,e5])
  clear h1 h2 h3 e h hm hxm s1 i1 k1 he hy hys hlen hcap
  have hi9:(i:Int)<=9223372036854775806:=by have:=H.out;obtain⟨es,_,s1,_⟩:=this;have:=s1.big;omega
  clear hin
  go_enter Tryz.func191,Tryz.ntmps191
  go_wp2_with fail
  rw[<-hN]
  clear hN
  refine C.out.mono ?_
  rintro _ w1 ⟨_,rfl,hb1,rfl⟩
  replace X:=Avp (X.out.mono hb1)
  replace HB:=Avp (HB.out.le hb1)
  have C2:=Avp (App (SI.out.mono hb1 fun _ x=>x) (by unfold Small;omega) (fun z hz=>by rw[List.mem_singleton.1 hz];exact HXS.out))
  clear hb1
  go_wp2_with fail
  refine C2.out.mono ?_
  rintro _ w2 ⟨_,rfl,hb2,A2,n2,c2,rfl,es2,he2,s2,i2,k2⟩
  obtain⟨y2,rfl⟩:∃ y2,es2=[y2]:=by
   cases es2 with
   | nil=>cases he2
   | cons a t=>cases t with
    | nil=>exact⟨a,rfl⟩
    | cons b t=>cases he2
  have hy2:y2.s=x:=by simpa using he2
  have hn2:n2=1:=s2.len
  subst hn2
  obtain⟨b3,o3,m3,hA3,_,hm3,_,c0,c1⟩:=s2.item (k:=0) (by decide)
  obtain rfl:y2=m3:=by simpa using hm3
  subst hA3
  simp only[Nat.zero_mul,Nat.add_zero] at c0 c1
  have hix:=(show(Instr.indexAt 139 (.slice (some ⟨b3,o3,none⟩) 1 c2) (.int .i64 0)).run Tryz.prog w2 = .ok (.pointer (some ⟨b3,o3,none⟩)) w2 by simp[go_sem])
  have K2:=Avp ((k2 y2 (List.mem_singleton.2 rfl)).mono (Below.refl _ _) fun b (hb:w1.heap.size<=b)=>show w.heap.size+1<=b by have:=HB.out.size;have:=X.out.lt;have:=EN.out;omega)
  have EY:=Avp hy2
  replace X:=Avp (X.out.mono hb2)
  replace HB:=Avp (HB.out.le hb2)
  clear hb2 he2 hm3 s2 i2 k2 hy2
  go_wp2_with ((with_reducible refine Ai (N) ?_ ?_);(next=>rfl))
  unfold Az
  refine Af (J:=N) rfl rfl rfl rfl rfl X.out (show(Tryz.prog.info? 246).map (·.size)=some 2 by kernel_rfl) rfl (by simp[Value.oneCell']) ?_
  intro w9 hx9 hu9
  have X9:=Avp hx9;have U9:=Avp hu9
  clear hx9 hu9
  go_wp2
  refine bodyPost_ret (v:=.tuple #[itV y2,.int .i64 0]) ?_ rfl ?_
  ·exact Ah Tryz.results191 rfl rfl X9.out Tryz.underlying246 rfl (show(Tryz.prog.info? 246).map (·.size)=some 2 by kernel_rfl)
  exact⟨_,rfl,K7 HB.out U9.out EN,y2,rfl,EY.out,(K2.out.upd U9.out (by have:=EN.out;omega)).mono (Below.refl _ _) fun b hb=>by omega⟩
def Cn (l:List As):List Dot:=l.flatMap fun x=>Dk x.2
def Gf (l:List As):List Dot:=Be (Cn l) []
theorem Ud {l:List As} {k:Nat} {x:As} (h:l[k]?=some x):Cn (l.take (k+1))=Cn (l.take k)++Dk x.2:=by rw[Cc h];simp[Cn]
theorem Ac8 (l:List As) (k:Nat):(Cn (l.take k)).length<=(Cn l).length:=by
 have:Cn l=Cn (l.take k)++Cn (l.drop k):=by unfold Cn;rw[<-List.flatMap_append,List.take_append_drop]
 rw[this,List.length_append];omega
theorem J7 {l:List As} {x:As} (h:x∈l):x.2.length<=(Cn l).length:=by
 induction l with
 | nil=>cases h
 | cons a t ih=>
  have e:(Cn (a::t)).length=a.2.length+(Cn t).length:=by simp[Cn,Dk]
  rw[e]
  rcases List.mem_cons.1 h with rfl | h
  ·omega
  ·have:=ih h;omega
def Asy (w:World) (n:Nat) (l:List As) (v i:Value) (wr:World):Prop:=∃ k:Nat,i = .int .i64 k∧k<=n∧Below w.heap.size w wr∧Row wr w.heap.size v (Cn (l.take k))
theorem Adk {D:Nat->Prop} {A:Option Addr} {n c:Nat} {l:List As} {w:World} (h:Fi D w A n c l) (hs:Small (Cn l).length):Calls Tryz.prog 260 #[.slice A n c] w (Ret w (Dd w.heap.size (Gf l))):=by
 obtain⟨es,he,h1,_,h3⟩:=h
 have hb:=h1.big
 have H:=Avp h1;have HI:=Avp h3;have HS:=Avp hs;have HE:=Avp he;have HL:=Avp h1.len
 clear h1 h3 hs he
 go_enter Tryz.func260,Tryz.ntmps260
 go_wp2
 go_loopw [3,8] (fun v i wr=>Asy w n l v i wr) (fun _ i _=>n - (intOf i).toNat)
 case atStart=>exact⟨0,rfl,Nat.zero_le _,Below.refl _ _,Row.nil_ _ _⟩
 case round=>
  obtain⟨k,rfl,hk,hbr,hr⟩:=hrel
  have HB:=Avp hbr;have R:=Avp hr;have LK:=Avp hk
  clear hbr hr hk
  by_cases hlt:k<n
  ·obtain⟨b,o,m,hA,hbl,hm,_,c0,c1⟩:=(H.out.mono HB.out).item hlt
   have hix:=(show(Instr.indexAt 139 (.slice A n c) (.int .i64 (k:Int))).run Tryz.prog wr = .ok (.pointer (some ⟨b,o+k*2,none⟩)) wr by rw[hA];simp[go_sem,hlt])
   have hl2:l[k]?=some m.s:=by rw[<-HE.out,List.getElem?_map,hm];rfl
   have hmem:=List.mem_of_getElem? hm
   have EX:=Avp hl2;have LT:=Avp hlt
   have hax:Below wr.heap.size wr (wr.alloc (.cells (itC m) 246)):=by go_grown
   have hlen:m.ms.length<=(Cn l).length:=J7 (x:=m.s) (List.mem_of_getElem? hl2)
   have C:=Avp (Aio (((HI.out m hmem).sl.mono HB.out).mono hax) (by rw[(HI.out m hmem).sl.len];have:=HS.out.out;unfold Small;omega))
   have R1:=Avp (R.out.mono hax)
   have HLM:=Avp hlen
   clear hm hA hmem hl2 hlen
   go_wp2_with fail
   refine C.out.mono ?_
   rintro _ w2 ⟨v2,rfl,hb2,hr2⟩
   obtain⟨A2,c2,rfl,d2⟩:=Row.dots hr2
   have hx2:Below wr.heap.size wr w2:=hax.le hb2
   replace R1:=Avp (R1.out.mono hb2)
   have D2:=Avp d2
   replace HB:=Avp (HB.out.le hx2)
   clear hb2 hr2 d2 hix c0 c1 hax hx2
   have hle:=Ud EX.out
   have hle2:=Ac8 l (k+1)
   rw[hle,List.length_append] at hle2
   have HLE:=Avp hle2;have HTK:=Avp hle
   clear hle hle2
   go_wp2_with (first
    | (at_builtin;refine D4 (B:=w.heap.size) (v:=u3) (l:=Cn (l.take k)) (k:=Dk m.ms) rfl rfl Tryz.underlying135 rfl rfl R1.out D2.out (by have h1:=HLE.out;have h2:=HS.out.out;simp[ItE.s] at h1;omega) (by have:=HB.out.size;omega) ?_;intro v3 w3 r3 g3;have R3:=Avp r3;have G3:=Avp g3;clear r3 g3)
    | fail)
   go_roundw
   case rel=>
    exact⟨k+1,by simp,LT.out,HB.out.grown G3.out HB.out.size (fun q hq=>(World.ownsRow.lt R1.out q hq).1),by rw[HTK.out];exact R3.out⟩
   case measure=>simp[intOf];have:=LT.out;omega
  ·obtain rfl:k=n:=by have:=LK.out;omega
   have e:l.take k=l:=by rw[<-HE.out,HL.out,<-List.length_map (f:=ItE.s),List.take_length]
   have r:=R.out
   rw[e] at r
   obtain⟨A2,c2,rfl,d2⟩:=Row.dots r
   have C:=Avp (Am0 _ _ _ _ wr d2 HS.out)
   clear r d2 e
   go_wp2_with fail
   refine C.out.mono ?_
   rintro _ w2 ⟨v2,rfl,hb2,hr2⟩
   have R2:=Avp (Row.low hr2 HB.out.size)
   replace HB:=Avp (HB.out.le hb2)
   clear hb2 hr2
   go_wp2
   go_ret
   exact⟨_,rfl,HB.out,R2.out⟩
def Acb (l:List As) (nm:List UInt8):Nat->Bool
 | 0=>true
 | i+1=>match l[i]? with | none=>true | some p=>Op.bytesLess p.1 nm
def Vc (l:List As) (j:Nat):Bool:=match l[j]? with | none=>true | some x=>!Ms x&&Acb l x.1 j
def okI (l:List As):Bool:=(List.range l.length).all (Vc l)
def Hw (l:List As):Bool:=okI l&&decide ((Gf l).length=(Cn l).length)
theorem Uz {l:List As}:okI l=true↔∀ j,j<l.length->Vc l j=true:=by unfold okI;rw[List.all_eq_true];simp
theorem Ajo {l:List As} {j:Nat} (hj:j<l.length) (h:Vc l j=false):Hw l=false:=by
 have:okI l=false:=by
  cases h2:okI l with
  | false=>rfl
  | true=>rw[Uz.1 h2 j hj] at h;cases h
 unfold Hw;rw[this];rfl
theorem Kq {l:List As} {j:Nat} {x:As} (h:l[j]?=some x):Vc l j=(!Ms x&&Acb l x.1 j):=by simp only[Vc,h]
theorem Agx {l:List As} {j:Nat} {x:As} (h:l[j]?=some x) (hi:Ms x=true):Vc l j=false:=by rw[Kq h,hi];rfl
theorem Ae2 {l:List As} {x:As} (h:l[0]?=some x) (hi:Ms x=false):Vc l 0=true:=by rw[Kq h,hi];rfl
theorem Afk {l:List As} {j:Nat} {x p:As} (h:l[j+1]?=some x) (hp:l[j]?=some p) (hi:Ms x=false):Vc l (j+1)=Op.bytesLess p.1 x.1:=by rw[Kq h,hi];simp[Acb,hp]
structure VAt (w:World) (n:Nat) (l:List As) (k:Nat) (wr:World):Prop where
 le:Below w.heap.size w wr
 ok:∀ j,j<k->Vc l j=true
def Avf (w:World) (n:Nat) (l:List As) (s i:Value) (wr:World):Prop:=∃ k:Nat,i = .int .i64 k∧k<=n∧s = .int .i64 ((Cn (l.take k)).length:Nat)∧VAt w n l k wr
theorem Pv {w0 w:World} {b o:Nat} {e:ItE} (hb:Below w0.heap.size w0 w) (h0:w0.cell? ⟨b,o,none⟩=some (Ac e.nm)) (h1:w0.cell? ⟨b,o+1,none⟩=some (.slice e.A e.n e.c)):(Instr.loadAt 246 (.pointer (some ⟨b,o,none⟩))).run Tryz.prog w = .ok (itV e) w:=by
 have c1:=Ad hb h0
 have c2:=Ad hb h1
 simp[go_sem,c1,c2]
theorem Fd {w0 w:World} {b o:Nat} {s:List UInt8} (hb:Below w0.heap.size w0 w) (h0:w0.cell? ⟨b,o,none⟩=some (Ac s)):(Instr.loadAt 9 (.pointer (some ⟨b,o,none⟩))).run Tryz.prog w = .ok (Ac s) w:=by
 have c1:=Ad hb h0
 simp[go_sem,c1]
theorem Ky {w:World} {b o:Nat}:(Instr.fieldAt 246 (.pointer (some ⟨b,o,none⟩)) 0).run Tryz.prog w = .ok (.pointer (some ⟨b,o,none⟩)) w:=by simp[go_sem]
theorem Pt {w:World} {a b:List UInt8} {x y:Operand} (r:Bool) (h:Op.bytesLess a b=r):(eqGuard .geq 9 x y (Ac a) (Ac b)).run Tryz.prog w = .ok () w∧(Go.binOp .geq 9 (Ac a) (Ac b)).run Tryz.prog w = .ok (.bool (!r)) w:=by
 refine⟨by simp[eqGuard,go_sem],?_⟩
 rw[<-h];simp[go_sem]
theorem D9 {w:World} {k:Nat} {x y:Operand} (hk:k+1<=9223372036854775807):(eqGuard .sub 3 x y (.int .i64 ((k+1:Nat):Int)) (.int .i64 1)).run Tryz.prog w = .ok () w∧(Go.binOp .sub 3 (.int .i64 ((k+1:Nat):Int)) (.int .i64 1)).run Tryz.prog w = .ok (.int .i64 (k:Int)) w:=by
 refine⟨by simp[eqGuard,go_sem],?_⟩
 simp[go_sem]
 exact IntWalk.i64_in _ (by omega)
theorem Kl:Enters Tryz.prog 263:=enters_of Tryz.func263 (by kernel_rfl) rfl
theorem Ap0 {D:Nat->Prop} {A:Option Addr} {n c:Nat} {l:List As} {w:World} (h:Fi D w A n c l) (hn:Bk w) (hs:Small (Cn l).length):Calls Tryz.prog 258 #[.slice A n c] w (Ret w (IsB (Hw l))):=by
 have h0:=h
 obtain⟨es,he,h1,_,h3⟩:=h
 have hb:=h1.big
 have H0:=Avp h0;have H:=Avp h1;have HI:=Avp h3;have HS:=Avp hs;have HE0:=Avp he;have NM:=Avp hn
 have HL:=Avp (show n=l.length by rw[h1.len,<-he,List.length_map])
 clear h0 h1 h3 hs he hn
 go_enter Tryz.func258,Tryz.ntmps258
 go_wp2
 go_loopw [3,8] (fun s i wr=>Avf w n l s i wr) (fun _ i _=>n - (intOf i).toNat)
 case atStart=>exact⟨0,rfl,Nat.zero_le _,rfl,Below.refl _ _,fun j hj=>by omega⟩
 case round=>
  obtain⟨k,rfl,hk,rfl,hat⟩:=hrel
  have AT:=Avp hat;have LK:=Avp hk
  clear hat hk
  by_cases hlt:k<n
  ·obtain⟨b,o,m,hA,hbl,hm,_,c0,c1⟩:=(H.out.mono AT.out.le).item hlt
   have hix:=(show(Instr.indexAt 139 (.slice A n c) (.int .i64 (k:Int))).run Tryz.prog wr = .ok (.pointer (some ⟨b,o+k*2,none⟩)) wr by rw[hA];simp[go_sem,hlt])
   have hl2:l[k]?=some m.s:=by rw[<-HE0.out,List.getElem?_map,hm];rfl
   have hmem:=List.mem_of_getElem? hm
   have EX:=Avp hl2
   have LT:=Avp (show k<l.length by rw[<-HL.out];exact hlt)
   have hlen:m.ms.length<=(Cn l).length:=J7 (x:=m.s) (List.mem_of_getElem? hl2)
   obtain⟨hax,y0,y1⟩:=Ps wr m
   have HX:=Avp hax;have Y0:=Avp y0;have Y1:=Avp y1
   have MN:=Avp (show m.n=m.ms.length from(HI.out m hmem).sl.len)
   have C:=Avp (fun w1 hb1=>Yl (w:=w1) ((HI.out m hmem).mono ((AT.out.le.le hax).le hb1) fun _ x=>x) (NM.out.mono ((AT.out.le.le hax).le hb1)) (by rw[(HI.out m hmem).sl.len];have:=HS.out.out;unfold Small;omega))
   have HLM:=Avp hlen
   obtain⟨J,hJ⟩:∃ J,J=wr.heap.size:=⟨_,rfl⟩
   have EJ:=Avp hJ
   rw[<-hJ] at Y0 Y1
   clear hm hmem hl2 hlen hax y0 y1
   cases hv:Ms m.s with
   | true=>
    have OK:=Avp (Agx EX.out hv)
    have C1:=Avp (fun w1 hb1=>by have:=C.out w1 hb1;rw[hv] at this;exact this)
    clear C hv hA
    go_wp2_with fail
    rw[<-hJ]
    clear hJ
    refine Am mixed (by kernel_rfl) ?_
    refine Ab.step (Ob.loadV Aa.free Has.oldIs (fun w1 hb1=>Pv hb1 Y0.out Y1.out)) ?_
    refine Ab.step (Ob.call1V Aa.free Kl (Has.new 0 0) (fun w1 hb1=>C1.out w1 hb1)) ?_
    refine Ab.step (Ob.move Aa.free (Has.new 1 0)) ?_
    refine Ab.step (Ob.off 2 0) ?_
    refine Ab.step (Ob.off 2 1) ?_
    refine Ab.step (Ob.off 2 2) ?_
    refine Ab.step (Ob.offU 5 0) ?_
    refine Ab.step (Ob.offU 5 1) ?_
    refine Ab.step (Ob.offU 5 2) ?_
    refine Ab.step (Ob.offU 5 3) ?_
    refine Ab.step (Ob.offU 5 4) ?_
    refine Ab.step (Ob.offU 5 5) ?_
    refine Ab.step (Ob.offU 5 6) ?_
    refine Ab.step (Ob.offU 5 7) ?_
    refine Ab.step (Ob.offU 5 8) ?_
    refine Ab.step (Ob.off 2 12) ?_
    refine Ab.step (Ob.pickT Aa.free (Has.new 2 13) (Has.cst _)) ?_
    simp only[Ab,Ao,List.map,Bq,List.reverse_cons,List.reverse_nil,List.nil_append,List.cons_append]
    intro wE hE
    iterate 17 (rintro _ rfl)
    simp only[Act.put,List.setIfInBounds_toArray,List.set_cons_zero,List.set_cons_succ]
    have HE:=Avp ((AT.out.le.le HX.out).le hE)
    clear hE c0 c1 hix
    go_wp2
    go_ret
    exact Ay (by rw[Ajo LT.out OK.out]) HE.out
   | false=>
    have C1:=Avp (fun w1 hb1=>by have:=C.out w1 hb1;rw[hv] at this;exact this)
    clear C
    have hla:=Ud EX.out
    have hlb:=Ac8 l (k+1)
    rw[hla,List.length_append] at hlb
    have hms:(Dk m.s.2).length=m.n:=by rw[MN.out];simp[Dk,ItE.s]
    rw[hms] at hlb
    have hle:(Cn (l.take k)).length+m.n<=1000000:=by have:=HS.out.out;omega
    have HTK:=Avp (show(Cn (l.take (k+1))).length=(Cn (l.take k)).length+m.n by rw[hla,List.length_append,hms])
    have INV:=Avp hv
    clear hla hlb hms hv
    generalize (Cn (l.take k)).length=a at *
    go_wp2_with fail
    rw[<-hJ]
    clear hJ c0 c1 hix
    cases k with
    | zero=>
     refine Am mixed (by kernel_rfl) ?_
     refine Ab.step (Ob.loadV Aa.free Has.oldIs (fun w1 hb1=>Pv hb1 Y0.out Y1.out)) ?_
     refine Ab.step (Ob.call1V Aa.free Kl (Has.new 0 0) (fun w1 hb1=>C1.out w1 hb1)) ?_
     refine Ab.step (Ob.move Aa.free (Has.new 1 0)) ?_
     refine Ab.step (Ob.move (Aa.on 2 0) Has.oldIs) ?_
     refine Ab.step (Ob.binV (Aa.on 2 1) (Has.new 3 0) (Has.cst _) (fun w1=>Ev false rfl)) ?_
     refine Ab.step (Ob.move (Aa.on 2 2) (Has.new 4 0)) ?_
     refine Ab.step (Ob.off 5 0) ?_
     refine Ab.step (Ob.off 5 1) ?_
     refine Ab.step (Ob.off 5 2) ?_
     refine Ab.step (Ob.off 5 3) ?_
     refine Ab.step (Ob.off 5 4) ?_
     refine Ab.step (Ob.off 5 5) ?_
     refine Ab.step (Ob.off 5 6) ?_
     refine Ab.step (Ob.off 5 7) ?_
     refine Ab.step (Ob.off 5 8) ?_
     refine Ab.step (Ob.pickF (Aa.on 2 12) (Has.new 5 9) (Has.cst _)) ?_
     refine Ab.step (Ob.pickF Aa.free (Has.new 2 13) (Has.new 15 0)) ?_
     simp only[Ab,Ao,List.map,Bq,List.reverse_cons,List.reverse_nil,List.nil_append,List.cons_append]
     intro wE hE
     iterate 17 (rintro _ rfl)
     simp only[Act.put,List.setIfInBounds_toArray,List.set_cons_zero,List.set_cons_succ]
     have HE:=Avp ((AT.out.le.le HX.out).le hE)
     have q1:=Ad hE Y1.out
     clear hE hA
     go_wp2
     go_roundw
     case rel=>exact⟨1,rfl,by have:=LT.out;have:=HL.out;omega,by rw[HTK.out];simp,HE.out,fun j hj=>by
      obtain rfl:j=0:=by omega
      exact Ae2 EX.out INV.out⟩
     case measure=>simp[intOf];have:=LT.out;have:=HL.out;omega
    | succ k=>
     obtain⟨b2,o2,m2,hA2,_,hm2,_,d0,d1⟩:=(H.out.mono AT.out.le).item (k:=k) (by omega)
     rw[hA] at hA2;cases hA2
     have hix2:=fun w=>(show(Instr.indexAt 139 (.slice A n c) (.int .i64 (k:Int))).run Tryz.prog w = .ok (.pointer (some ⟨b,o+k*2,none⟩)) w by rw[hA];simp[go_sem];omega)
     have IX2:=Avp hix2
     have D0:=Avp (show(wr.alloc (.cells (itC m) 246)).cell? ⟨b,o+k*2,none⟩=some (Ac m2.nm) from Ad HX.out d0)
     have hp:l[k]?=some m2.s:=by rw[<-HE0.out,List.getElem?_map,hm2];rfl
     have OK:=Avp (Afk EX.out hp INV.out)
     have HK:=Avp (show k+1<=9223372036854775807 by omega)
     clear hm2 d0 d1 hix2 hp hA
     cases hr:Op.bytesLess m2.nm m.nm with
     | false=>
      rw[show Op.bytesLess m2.s.1 m.s.1=false from hr] at OK
      have HR:=Avp hr
      clear hr
      refine Am mixed (by kernel_rfl) ?_
      refine Ab.step (Ob.loadV Aa.free Has.oldIs (fun w1 hb1=>Pv hb1 Y0.out Y1.out)) ?_
      refine Ab.step (Ob.call1V Aa.free Kl (Has.new 0 0) (fun w1 hb1=>C1.out w1 hb1)) ?_
      refine Ab.step (Ob.move Aa.free (Has.new 1 0)) ?_
      refine Ab.step (Ob.move (Aa.on 2 0) Has.oldIs) ?_
      refine Ab.step (Ob.binV (Aa.on 2 1) (Has.new 3 0) (Has.cst _) (fun w1=>Ev true (by simp))) ?_
      refine Ab.step (Ob.move (Aa.on 2 2) (Has.new 4 0)) ?_
      refine Ab.step (Ob.move (Aa.on 5 0) Has.oldIs) ?_
      refine Ab.step (Ob.move (Aa.on 5 1) Has.oldIs) ?_
      refine Ab.step (Ob.binV (Aa.on 5 2) (Has.new 7 0) (Has.cst _) (fun w1=>D9 HK.out)) ?_
      refine Ab.step (Ob.indexV (Aa.on 5 3) (Has.new 6 2) (Has.new 8 0) (fun w1=>IX2.out w1)) ?_
      refine Ab.step (Ob.fieldV (Aa.on 5 4) (Has.new 9 0) (fun w1=>Ky)) ?_
      refine Ab.step (Ob.loadV (Aa.on 5 5) (Has.new 10 0) (fun w1 hb1=>Fd hb1 D0.out)) ?_
      refine Ab.step (Ob.fieldV (Aa.on 5 6) Has.oldIs (fun w1=>Ky)) ?_
      refine Ab.step (Ob.loadV (Aa.on 5 7) (Has.new 12 0) (fun w1 hb1=>Fd hb1 Y0.out)) ?_
      refine Ab.step (Ob.binV (Aa.on 5 8) (Has.new 11 2) (Has.new 13 0) (fun w1=>Pt false HR.out)) ?_
      refine Ab.step (Ob.pickT (Aa.on 2 12) (Has.new 5 9) (Has.new 14 0)) ?_
      refine Ab.step (Ob.pickF Aa.free (Has.new 2 13) (Has.new 15 0)) ?_
      simp only[Ab,Ao,List.map,Bq,List.reverse_cons,List.reverse_nil,List.nil_append,List.cons_append]
      intro wE hE
      iterate 17 (rintro _ rfl)
      simp only[Act.put,List.setIfInBounds_toArray,List.set_cons_zero,List.set_cons_succ]
      have HE:=Avp ((AT.out.le.le HX.out).le hE)
      clear hE
      go_wp2
      go_ret
      exact Ay (by rw[Ajo LT.out OK.out]) HE.out
     | true=>
      rw[show Op.bytesLess m2.s.1 m.s.1=true from hr] at OK
      have HR:=Avp hr
      clear hr
      refine Am mixed (by kernel_rfl) ?_
      refine Ab.step (Ob.loadV Aa.free Has.oldIs (fun w1 hb1=>Pv hb1 Y0.out Y1.out)) ?_
      refine Ab.step (Ob.call1V Aa.free Kl (Has.new 0 0) (fun w1 hb1=>C1.out w1 hb1)) ?_
      refine Ab.step (Ob.move Aa.free (Has.new 1 0)) ?_
      refine Ab.step (Ob.move (Aa.on 2 0) Has.oldIs) ?_
      refine Ab.step (Ob.binV (Aa.on 2 1) (Has.new 3 0) (Has.cst _) (fun w1=>Ev true (by simp))) ?_
      refine Ab.step (Ob.move (Aa.on 2 2) (Has.new 4 0)) ?_
      refine Ab.step (Ob.move (Aa.on 5 0) Has.oldIs) ?_
      refine Ab.step (Ob.move (Aa.on 5 1) Has.oldIs) ?_
      refine Ab.step (Ob.binV (Aa.on 5 2) (Has.new 7 0) (Has.cst _) (fun w1=>D9 HK.out)) ?_
      refine Ab.step (Ob.indexV (Aa.on 5 3) (Has.new 6 2) (Has.new 8 0) (fun w1=>IX2.out w1)) ?_
      refine Ab.step (Ob.fieldV (Aa.on 5 4) (Has.new 9 0) (fun w1=>Ky)) ?_
      refine Ab.step (Ob.loadV (Aa.on 5 5) (Has.new 10 0) (fun w1 hb1=>Fd hb1 D0.out)) ?_
      refine Ab.step (Ob.fieldV (Aa.on 5 6) Has.oldIs (fun w1=>Ky)) ?_
      refine Ab.step (Ob.loadV (Aa.on 5 7) (Has.new 12 0) (fun w1 hb1=>Fd hb1 Y0.out)) ?_
      refine Ab.step (Ob.binV (Aa.on 5 8) (Has.new 11 2) (Has.new 13 0) (fun w1=>Pt true HR.out)) ?_
      refine Ab.step (Ob.pickT (Aa.on 2 12) (Has.new 5 9) (Has.new 14 0)) ?_
      refine Ab.step (Ob.pickF Aa.free (Has.new 2 13) (Has.new 15 0)) ?_
      simp only[Ab,Ao,List.map,Bq,List.reverse_cons,List.reverse_nil,List.nil_append,List.cons_append]
      intro wE hE
      iterate 17 (rintro _ rfl)
      simp only[Act.put,List.setIfInBounds_toArray,List.set_cons_zero,List.set_cons_succ]
      have HE:=Avp ((AT.out.le.le HX.out).le hE)
      have q1:=Ad hE Y1.out
      clear hE
      go_wp2
      go_roundw
      case rel=>exact⟨k+2,by simp;omega,by have:=LT.out;have:=HL.out;omega,by rw[HTK.out];simp,HE.out,fun j hj=>by
       rcases Nat.lt_or_ge j (k+1) with hj2 | hj2
       ·exact AT.out.ok j hj2
       ·obtain rfl:j=k+1:=by omega
        exact OK.out⟩
      case measure=>simp[intOf];have:=LT.out;have:=HL.out;omega
  ·obtain rfl:k=n:=by have:=LK.out;omega
   have e:l.take k=l:=by rw[HL.out,List.take_length]
   have C:=Avp (Adk (H0.out.mono AT.out.le fun _ x=>x) HS.out)
   have hok:okI l=true:=Uz.2 (by rw[<-HL.out];exact AT.out.ok)
   have EV:=Avp (show Hw l=decide ((Gf l).length=(Cn l).length) by unfold Hw;rw[hok];rfl)
   rw[e]
   clear e hok
   go_wp2_with fail
   refine C.out.mono ?_
   rintro _ w2 ⟨v2,rfl,hb2,hr2⟩
   obtain⟨A2,c2,rfl,d2⟩:=Row.dots hr2
   have HB:=Avp (AT.out.le.le hb2)
   clear hb2 hr2 d2
   obtain⟨r,hr⟩:∃ r,decide ((Gf l).length=(Cn l).length)=r:=⟨_,rfl⟩
   have hr2:(((Gf l).length:Int)==((Cn l).length:Int))=r:=by rw[<-hr,Bool.eq_iff_iff];simp;omega
   have HR:=Avp hr2;have ER:=Avp hr
   clear hr hr2
   go_wp2
   go_ret
   exact Ay (by rw[EV.out,ER.out,HR.out]) HB.out
section
variable {ops:List Oper} {Fs:List VT} {w0:World} {a0:Act} {i:Nat} {d:Option Tmp} {ty:TypeId} {pos:String} {after:Array Edge} {g:Option (Nat×Bool)}
theorem Ob.mkConD {x y:Operand} {A:Option Addr} {n ca:Nat} {l k:List Dot} (hw:Aa ops Fs w0 a0 i ⟨d,.build 138 #[(0,x),(1,y)],ty,pos,after,g⟩) (hx:Has ops Fs w0 a0 i ⟨d,.build 138 #[(0,x),(1,y)],ty,pos,after,g⟩ x (Is (.slice A n ca))) (hy:Has ops Fs w0 a0 i ⟨d,.build 138 #[(0,x),(1,y)],ty,pos,after,g⟩ y (Aap k))
  (h:∀ w,Below w0.heap.size w0 w->Bc w A n ca l):Ob Tryz.prog ops Fs w0 a0 i ⟨d,.build 138 #[(0,x),(1,y)],ty,pos,after,g⟩ (Aiu (l,k)):=
 Ob.stay hw fun a w cx=>by
  have e1:a.eval x = .slice A n ca:=hx a w cx
  obtain⟨B,m,cb,e2,d2⟩:=hy a w cx
  refine⟨.agg #[.slice A n ca,.slice B m cb],?_,A,n,ca,B,m,cb,rfl,h w cx.le,d2⟩
  generalize a.eval=ρ at e1 e2
  simp[execOp,e1,e2,go_sem]
end
def Ae0 (c:Ctx) (l:List Dot):Ctx:=Fe (c.1,Be c.2 l)
theorem Gl:∀ (b a:List Dot),(b.foldl Fo a).length<=a.length+b.length
 | [],a=>Nat.le_refl _
 | d::t,a=>by
  have:=Gl t (Fo a d)
  have:=Vd a d
  simp only[List.foldl_cons,List.length_cons];omega
theorem Cy (a b:List Dot):(Be a b).length<=a.length+b.length:=by
 unfold Be
 have:=Gl b (a.foldl Fo [])
 have:=Gl a []
 simp at *;omega
def Inc (l:List Dot):Prop:=l.Pairwise (fun a b=>a.1<b.1)
theorem Mv:∀ l:List Dot,Jt l=true↔Inc l
 | []=>by simp[Jt,Inc]
 | [a]=>by simp[Jt,Inc]
 | a::b::t=>by
  have ih:=Mv (b::t)
  simp only[Jt,Bool.and_eq_true,ih,decide_eq_true_eq]
  unfold Inc
  rw[List.pairwise_cons (a:=a)]
  constructor
  ·rintro⟨h1,h2⟩
   refine⟨fun x hx=>?_,h2⟩
   rcases List.mem_cons.1 hx with rfl | hx
   ·exact h1
   ·exact Int.lt_trans h1 ((List.pairwise_cons.1 h2).1 x hx)
  ·rintro⟨h1,h2⟩
   exact⟨h1 b List.mem_cons_self,h2⟩
theorem Cj {l:List Dot} (h:Ax l=true) {d:Dot} (hd:d∈l):Bm d=true:=by unfold Ax at h;rw[List.all_eq_true] at h;exact h d hd
theorem Hb {l:List Dot} (h:∀ d∈l,Bm d=true):Ax l=true:=by unfold Ax;rw[List.all_eq_true];exact h
theorem Oo {a:Dot} {t:List Dot} (h:Ax (a::t)=true):Bm a=true∧Ax t=true:=⟨Cj h List.mem_cons_self,Hb fun _ hd=>Cj h (List.mem_cons_of_mem _ hd)⟩
theorem Tu:∀ {l:List Dot} {r:Int},(∀ a∈l,a.1≠r)->By l r=0
 | [],_,_=>rfl
 | a::t,r,h=>by rw[By,if_neg (h a List.mem_cons_self)];exact Tu fun b hb=>h b (List.mem_cons_of_mem _ hb)
theorem Qd:∀ {l:List Dot} {d:Dot},Inc l->d∈l->By l d.1=d.2
 | a::t,d,hi,hd=>by
  obtain⟨h1,h2⟩:=List.pairwise_cons.1 hi
  rw[By]
  rcases List.mem_cons.1 hd with rfl | hd
  ·rw[if_pos rfl]
  ·rw[if_neg (by have:=h1 d hd;omega)];exact Qd h2 hd
theorem Nz:∀ {l:List Dot} {r:Int},By l r≠0->(r,By l r)∈l
 | [],r,h=>absurd rfl h
 | a::t,r,h=>by
  rw[By] at h ⊢
  split
  ·rename_i e
   subst e
   exact List.mem_cons_self
  ·rename_i e
   rw[if_neg e] at h
   exact List.mem_cons_of_mem _ (Nz h)
theorem Adn {l:List Dot} (hi:Inc l) (hv:Ax l=true) (d:Dot):d∈l↔By l d.1=d.2∧d.2≠0:=by
 constructor
 ·intro hd
  have:=Hp.1 (Cj hv hd)
  exact⟨Qd hi hd,by omega⟩
 ·rintro⟨h1,h2⟩
  have:=Nz (l:=l) (r:=d.1) (by omega)
  rw[h1] at this
  exact this
theorem Ade:∀ {a b:List Dot},Inc a->Inc b->(∀ d,d∈a↔d∈b)->a=b
 | [],[],_,_,_=>rfl
 | [],b::t,_,_,h=>by have:=(h b).2 List.mem_cons_self;cases this
 | a::s,[],_,_,h=>by have:=(h a).1 List.mem_cons_self;cases this
 | a::s,b::t,ha,hb,h=>by
  obtain⟨ha1,ha2⟩:=List.pairwise_cons.1 ha
  obtain⟨hb1,hb2⟩:=List.pairwise_cons.1 hb
  have e:a=b:=by
   rcases List.mem_cons.1 ((h a).1 List.mem_cons_self) with e | hm
   ·exact e
   ·rcases List.mem_cons.1 ((h b).2 List.mem_cons_self) with e | hm2
    ·exact e.symm
    ·have h1:=hb1 a hm;have h2:=ha1 b hm2
     omega
  subst e
  rw[Ade ha2 hb2 fun d=>⟨fun hd=>?_,fun hd=>?_⟩]
  ·rcases List.mem_cons.1 ((h d).1 (List.mem_cons_of_mem _ hd)) with rfl | hm
   ·have:=ha1 d hd;omega
   ·exact hm
  ·rcases List.mem_cons.1 ((h d).2 (List.mem_cons_of_mem _ hd)) with rfl | hm
   ·have:=hb1 d hd;omega
   ·exact hm
theorem Adz {a b:List Dot} (ha:Inc a) (hb:Inc b) (va:Ax a=true) (vb:Ax b=true) (h:∀ r,By a r=By b r):a=b:=
 Ade ha hb fun d=>by rw[Adn ha va,Adn hb vb,h]
theorem Oe:∀ (l:List Dot) (d:Dot) (r:Int),r≠d.1->By (l.filter (fun a=>a.1 != d.1)) r=By l r
 | [],_,_,_=>rfl
 | a::t,d,r,h=>by
  rw[List.filter_cons]
  have ih:=Oe t d r h
  split
  ·rw[By,By,ih]
  ·rename_i hn
   have:a.1=d.1:=by simpa using hn
   rw[By,if_neg (by omega),ih]
theorem Jo (d:Dot):∀ (l:List Dot) (r:Int),Inc l->By (Ds d false l) r=if r=d.1 then d.2 else By l r
 | [],r,_=>by simp only[Ds,By];simp[By,eq_comm]
 | a::t,r,hi=>by
  obtain⟨h1,h2⟩:=List.pairwise_cons.1 hi
  rw[Et]
  split
  ·by_cases e:r=d.1
   ·rw[By,if_pos e.symm,if_pos e]
   ·rw[By,if_neg (fun h=>e h.symm),if_neg e,Oe _ _ _ e]
  ·rename_i hn
   rw[By,Jo d t r h2]
   by_cases e:r=d.1
   ·rw[if_neg (by omega),if_pos e,if_pos e]
   ·rw[if_neg e,if_neg e,By]
theorem Ou (d:Dot):∀ (l:List Dot) (x:Dot),x∈Ds d false l->x=d∨(x∈l)
 | [],x,h=>by simp[Ds] at h;exact .inl h
 | a::t,x,h=>by
  rw[Et] at h
  split at h
  ·rcases List.mem_cons.1 h with h | h
   ·exact .inl h
   ·exact .inr (List.mem_filter.1 h).1
  ·rcases List.mem_cons.1 h with h | h
   ·exact .inr (h ▸ List.mem_cons_self)
   ·rcases Ou d t x h with h | h
    ·exact .inl h
    ·exact .inr (List.mem_cons_of_mem _ h)
theorem Oj (d:Dot):∀ (l:List Dot),Inc l->Inc (Ds d false l)
 | [],_=>by simp[Ds,Inc]
 | a::t,hi=>by
  obtain⟨h1,h2⟩:=List.pairwise_cons.1 hi
  rw[Et]
  split
  ·rename_i hle
   refine List.pairwise_cons.2 ⟨fun x hx=>?_,List.Pairwise.filter _ hi⟩
   obtain⟨hx1,hx2⟩:=List.mem_filter.1 hx
   have hne:x.1≠d.1:=by simpa using hx2
   rcases List.mem_cons.1 hx1 with rfl | hx1
   ·omega
   ·have:=h1 x hx1;omega
  ·rename_i hle
   refine List.pairwise_cons.2 ⟨fun x hx=>?_,Oj d t h2⟩
   rcases Ou d t x hx with rfl | hx
   ·omega
   ·exact h1 x hx
theorem Um {v:List Dot} (d:Dot) (h:Inc v):Inc (Cq v d):=by unfold Cq;split;exact h;exact Oj d v h
theorem Qi {v:List Dot} {d:Dot} (h:Inc v) (hd:Bm d=true) (r:Int):By (Cq v d) r=if r=d.1 then max (By v r) d.2 else By v r:=by
 unfold Cq I5
 rw[hd,Bool.true_and]
 by_cases e:r=d.1
 ·subst e
  rw[if_pos rfl]
  split
  ·rename_i h1;have:=of_decide_eq_true h1;omega
  ·rename_i h1
   rw[Jo d v _ h,if_pos rfl]
   have:¬d.2<=By v d.1:=fun h=>h1 (decide_eq_true h)
   omega
 ·rw[if_neg e]
  split
  ·rfl
  ·rw[Jo d v _ h,if_neg e]
def Mu (l:List Dot):List Dot:=l.foldl Cq []
def Hu (l:List Dot) (r:Int) (m:Int):Int:=l.foldl (fun m d=>if r=d.1 then max m d.2 else m) m
theorem L8:∀ (l v:List Dot),Ax l=true->Inc v->Ax v=true->Inc (l.foldl Cq v)∧Ax (l.foldl Cq v)=true∧∀ r,By (l.foldl Cq v) r=Hu l r (By v r)
 | [],v,_,h,h'=>⟨h,h',fun _=>rfl⟩
 | d::t,v,hl,h,h'=>by
  obtain⟨hd,ht⟩:=Oo hl
  obtain⟨i1,i2,i3⟩:=L8 t (Cq v d) ht (Um d h) (Lh d hd v h')
  refine⟨i1,i2,fun r=>?_⟩
  rw[List.foldl_cons,i3,Qi h hd]
  rfl
theorem Tp {l:List Dot} (hl:Ax l=true):Inc (Mu l)∧Ax (Mu l)=true∧∀ r,By (Mu l) r=Hu l r 0:=L8 l [] hl List.Pairwise.nil rfl
theorem Lz (a:Dot) (t:List Dot) (r m:Int):Hu (a::t) r m=Hu t r (if r=a.1 then max m a.2 else m):=rfl
theorem Qr:∀ {l:List Dot} {r:Int},(∀ a∈l,a.1≠r)->∀ m,Hu l r m=m
 | [],_,_,_=>rfl
 | a::t,r,h,m=>by
  rw[Lz,if_neg (fun e=>h a List.mem_cons_self e.symm)]
  exact Qr (fun b hb=>h b (List.mem_cons_of_mem _ hb)) m
theorem Nu:∀ {l:List Dot} {r m:Int},Inc l->Ax l=true->0<=m->Hu l r m=max m (By l r)
 | [],_,m,_,_,hm=>by show m=max m 0;omega
 | a::t,r,m,hi,hv,hm=>by
  obtain⟨h1,h2⟩:=List.pairwise_cons.1 hi
  obtain⟨v1,v2⟩:=Oo hv
  rw[Lz,By]
  by_cases e:r=a.1
  ·subst e
   rw[if_pos rfl,if_pos rfl]
   exact Qr (fun b hb=>by have:=h1 b hb;omega) _
  ·rw[if_neg e,if_neg (fun h=>e h.symm)]
   exact Nu h2 v2 hm
theorem Aeb {v:List Dot} (h:Inc v) (hv:Ax v=true):Mu v=v:=by
 obtain⟨h1,h2,h3⟩:=Tp hv
 refine Adz h1 h h2 hv fun r=>?_
 rw[h3,Nu h hv (Int.le_refl _)]
 have:=Nf v r hv
 omega
def Ex (a b:List Dot):List Dot:=b.foldl Cq a
theorem Wo {a b:List Dot} (h:Inc a) (hv:Ax a=true):Mu (a++b)=Ex a b:=by
 unfold Ex
 conv=>rhs;rw[<-Aeb h hv]
 unfold Mu
 rw[List.foldl_append]
theorem Aaf {a b:List Dot} (ha:Inc a) (va:Ax a=true) (hb:Inc b) (vb:Ax b=true):Inc (Ex a b)∧Ax (Ex a b)=true∧∀ r,By (Ex a b) r=max (By a r) (By b r):=by
 obtain⟨h1,h2,h3⟩:=L8 b a vb ha va
 refine⟨h1,h2,fun r=>?_⟩
 show By (b.foldl Cq a) r=_
 rw[h3,Nu hb vb (Nf a r va).1]
theorem Afs {v:List Dot} (d:Dot):Ex v [d]=Cq v d:=rfl
structure Ok (c:Ctx):Prop where
 inc:Inc c.1
 vec:Ax c.1=true
 ord:Ord c.2
 dots:Ax c.2=true
theorem Lt {c:Ctx}:Dy c=true↔Ok c:=by
 unfold Dy Eb
 rw[Bool.and_eq_true,Bool.and_eq_true,Bool.and_eq_true,Mv,Nr]
 exact⟨fun⟨⟨a,b⟩,c,d⟩=>⟨a,b,c,d⟩,fun⟨a,b,c,d⟩=>⟨⟨a,b⟩,c,d⟩⟩
def In (c:Ctx) (d:Dot):Prop:=Bm d=true∧(d.2<=By c.1 d.1∨d∈c.2)
structure Apf (c:Ctx):Prop where
 ok:Ok c
 far:∀ d∈c.2,By c.1 d.1+1<d.2
theorem Ad4 {c:Ctx}:Ic c=true↔Apf c:=by
 unfold Ic
 rw[Bool.and_eq_true,Lt,Bool.not_eq_true',List.any_eq_false]
 constructor
 ·rintro⟨a,b⟩
  refine⟨a,fun d hd=>?_⟩
  have:=b d hd
  unfold Ml at this
  have h:¬d.2<=By c.1 d.1+1:=fun h=>this (decide_eq_true h)
  omega
 ·rintro⟨a,b⟩
  refine⟨a,fun d hd h=>?_⟩
  have:=b d hd
  unfold Ml at h
  have:=of_decide_eq_true h
  omega
structure Mid (c s:Ctx) (l:List Dot):Prop where
 inc:Inc s.1
 vec:Ax s.1=true
 ord:Ord (s.2++l)
 dots:Ax (s.2++l)=true
 far:∀ d∈s.2,By s.1 d.1+1<d.2
 same:∀ d,In (s.1,s.2++l) d↔In c d
 old:∀ d∈l,I5 s.1 d=I5 c.1 d
theorem Hl {v:List Dot} {d:Dot} (h:Bm d=true):I5 v d=true↔d.2<=By v d.1:=by unfold I5;rw[h];simp
theorem Mid.next {c s:Ctx} {d:Dot} {t:List Dot} (h:Mid c s (d::t)):Mid c (Ek s d) t:=by
 have hd:Bm d=true:=Cj h.dots (List.mem_append_right _ List.mem_cons_self)
 have hord:=h.ord
 unfold Ord at hord
 rw[List.pairwise_append,List.pairwise_cons] at hord
 obtain⟨o1,⟨o2,o3⟩,o4⟩:=hord
 have hsub:(s.2++t).Sublist (s.2++d::t):=List.Sublist.append_left (List.sublist_cons_self d t) _
 unfold Ek
 by_cases h1:I5 s.1 d=true
 ·rw[if_pos h1]
  refine⟨h.inc,h.vec,List.Pairwise.sublist hsub h.ord,Hb fun x hx=>Cj h.dots (hsub.subset hx),h.far,fun x=>?_,fun x hx=>h.old x (List.mem_cons_of_mem _ hx)⟩
  rw[<-h.same]
  unfold In
  refine and_congr_right fun hx=>?_
  simp only[List.mem_append,List.mem_cons]
  constructor
  ·rintro(h | h | h)
   ·exact .inl h
   ·exact .inr (.inl h)
   ·exact .inr (.inr (.inr h))
  ·rintro(h' | h' | rfl | h')
   ·exact .inl h'
   ·exact .inr (.inl h')
   ·exact .inl ((Hl hd).1 h1)
   ·exact .inr (.inr h')
 ·rw[if_neg h1]
  have hgt:¬d.2<=By s.1 d.1:=fun h=>h1 ((Hl hd).2 h)
  by_cases h2:d.2=By s.1 d.1+1
  ·rw[if_pos (by simpa using h2)]
   have hg:=Qi (d:=d) h.inc hd
   have hgd:By (Cq s.1 d) d.1=d.2:=by rw[hg,if_pos rfl];omega
   refine⟨Um d h.inc,Lh d hd _ h.vec,List.Pairwise.sublist hsub h.ord,Hb fun x hx=>Cj h.dots (hsub.subset hx),fun x hx=>?_,fun x=>?_,fun x hx=>?_⟩
   ·show By (Cq s.1 d) x.1+1<x.2
    rw[hg]
    have hf:=h.far x hx
    by_cases e:x.1=d.1
    ·exfalso
     have hl:=Dj.1 (o4 x hx d List.mem_cons_self)
     rw[e] at hf
     omega
    ·rw[if_neg e];exact hf
   ·rw[<-h.same]
    unfold In
    refine and_congr_right fun hx=>?_
    show x.2<=By (Cq s.1 d) x.1∨x∈s.2++t↔x.2<=By s.1 x.1∨x∈s.2++d::t
    rw[hg]
    simp only[List.mem_append,List.mem_cons]
    by_cases e:x.1=d.1
    ·rw[if_pos e]
     constructor
     ·rintro(h' | h' | h')
      ·by_cases e2:x.2=d.2
       ·exact .inr (.inr (.inl (Prod.ext e e2)))
       ·rw[e] at h' ⊢;exact .inl (by omega)
      ·exact .inr (.inl h')
      ·exact .inr (.inr (.inr h'))
     ·rintro(h' | h' | rfl | h')
      ·exact .inl (by omega)
      ·exact .inr (.inl h')
      ·exact .inl (by omega)
      ·exact .inr (.inr h')
    ·rw[if_neg e]
     have hne:x≠d:=fun h=>e (by rw[h])
     simp[hne]
   ·show I5 (Cq s.1 d) x=_
    rw[<-h.old x (List.mem_cons_of_mem _ hx)]
    have hl:=Dj.1 (o2 x hx)
    have hxv:Bm x=true:=Cj h.dots (List.mem_append_right _ (List.mem_cons_of_mem _ hx))
    unfold I5
    rw[hg]
    by_cases e:x.1=d.1
    ·rw[if_pos e,e]
     have a1:¬x.2<=max (By s.1 d.1) d.2:=by omega
     have a2:¬x.2<=By s.1 d.1:=by omega
     rw[decide_eq_false a1,decide_eq_false a2]
    ·rw[if_neg e]
  ·rw[if_neg (by simpa using h2)]
   have e:s.2++[d]++t=s.2++d::t:=by simp
   refine⟨h.inc,h.vec,by show Ord (s.2++[d]++t);rw[e];exact h.ord,by show Ax (s.2++[d]++t)=true;rw[e];exact h.dots,fun x hx=>?_,fun x=>by show In (s.1,s.2++[d]++t) x↔_;rw[e];exact h.same x,fun x hx=>h.old x (List.mem_cons_of_mem _ hx)⟩
   rcases List.mem_append.1 hx with hx | hx
   ·exact h.far x hx
   ·obtain rfl:x=d:=by simpa using hx
    show By s.1 x.1+1<x.2
    omega
theorem Mid.start {c:Ctx} (h:Ok c):Mid c (c.1,[]) c.2:=⟨h.inc,h.vec,by simpa using h.ord,by simpa using h.dots,(fun d hd=>nomatch hd),(fun d=>by simp),fun _ _=>rfl⟩
theorem Z7:∀ (l:List Dot) (v k:List Dot),(∀ d∈l,By v d.1+1<d.2)->l.foldl Ek (v,k)=(v,k++l)
 | [],v,k,_=>by simp
 | d::t,v,k,h=>by
  have hd:=h d List.mem_cons_self
  have e:Ek (v,k) d=(v,k++[d]):=by
   unfold Ek
   have h1:¬I5 v d=true:=by
    unfold I5;rw[Bool.and_eq_true];rintro⟨_,h⟩;have:=of_decide_eq_true h;omega
   rw[if_neg h1,if_neg (by simp;omega)]
  rw[List.foldl_cons,e,Z7 t v _ fun x hx=>h x (List.mem_cons_of_mem _ hx),List.append_assoc]
  rfl
theorem Ab6 {c:Ctx} (h:Apf c):H5 c=c:=by
 unfold H5
 rw[Z7 _ _ _ h.far]
 rfl
theorem My {c:Ctx}:Fe c=H5 c:=by
 unfold Fe
 split
 ·rename_i h;rw[Ab6 (Ad4.1 h)]
 ·rfl
theorem N8 (c:Ctx):∀ (l s:List Dot),Ord s->Ord (l.foldl (fun acc d=>if Kf c d then acc else Fo acc d) s)∧∀ x,x∈l.foldl (fun acc d=>if Kf c d then acc else Fo acc d) s↔x∈s∨(x∈l∧Kf c x=false)
 | [],s,h=>⟨h,fun x=>by simp⟩
 | a::t,s,h=>by
  rw[List.foldl_cons]
  cases hh:Kf c a with
  | true=>
   obtain⟨h1,h2⟩:=N8 c t s h
   refine⟨h1,fun x=>?_⟩
   rw[if_pos rfl,h2,List.mem_cons]
   constructor
   ·rintro(h | ⟨h,h'⟩)
    ·exact .inl h
    ·exact .inr ⟨.inr h,h'⟩
   ·rintro(h | ⟨rfl | h,h'⟩)
    ·exact .inl h
    ·rw[hh] at h';cases h'
    ·exact .inr ⟨h,h'⟩
  | false=>
   obtain⟨h1,h2⟩:=N8 c t (Fo s a) (Wm a h)
   rw[if_neg (by simp)]
   refine⟨h1,fun x=>?_⟩
   rw[h2,Zj,List.mem_cons]
   constructor
   ·rintro((h | rfl) | ⟨h,h'⟩)
    ·exact .inl h
    ·exact .inr ⟨.inl rfl,hh⟩
    ·exact .inr ⟨.inr h,h'⟩
   ·rintro(h | ⟨rfl | h,h'⟩)
    ·exact .inl (.inl h)
    ·exact .inl (.inr rfl)
    ·exact .inr ⟨h,h'⟩
theorem Zz (c:Ctx) (l:List Dot):(Be l []).filter (fun d=>!Kf c d)=Qz c l:=by
 obtain⟨h1,h2⟩:=N8 c l [] List.Pairwise.nil
 refine Px (List.Pairwise.filter _ (Fu _ _)) h1 fun d=>?_
 show _↔d∈l.foldl _ []
 rw[h2,List.mem_filter,Ha]
 simp
theorem Pc {a b:List Dot} (ha:Ax a=true) (hb:Ax b=true):Ax (Be a b)=true:=Hb fun d hd=>by
 rcases Ha.1 hd with h | h
 ·exact Cj ha h
 ·exact Cj hb h
theorem Aqt {c:Ctx} {l:List Dot} (h:Ok c) (hl:Ax l=true):Ok (c.1,Be c.2 l):=⟨h.inc,h.vec,Fu _ _,Pc h.dots hl⟩
def Em (a b:Ctx):Ctx:=Fe (Ex a.1 b.1,Be a.2 b.2)
theorem Akf {a b:Ctx} (ha:Ok a) (hb:Ok b):Ok (Ex a.1 b.1,Be a.2 b.2):=by
 obtain⟨h1,h2,_⟩:=Aaf ha.inc ha.vec hb.inc hb.vec
 exact⟨h1,h2,Fu _ _,Pc ha.dots hb.dots⟩
structure Frame (N:Nat) (v:Value) (w w':World):Prop where
 os:w'.os=w.os
 tape:w'.tape=w.tape
 output:w'.output=w.output
 size:w.heap.size<=w'.heap.size
 block:∀ k,k<w.heap.size->k≠N->v.ownBlock≠some k->w'.heap[k]?=w.heap[k]?
def Amk (N B:Nat) (v:Value) (l:List Dot) (w:World) (e:Ending) (w':World):Prop:=
 e = .returned (.tuple #[])∧Frame N v w w'∧∃ v',w'.cell? ⟨N,0,none⟩=some v'∧w'.frozen? ⟨N,0,none⟩=false∧Row w' B v' l∧∀ g,v'.ownBlock=some g->v.ownBlock=some g∨w.heap.size<=g
theorem Ar1 (N B:Nat) (x y:Int) (v:Value) (l:List Dot) (w:World) (hN:N<B) (hc:w.cell? ⟨N,0,none⟩=some v) (hf:w.frozen? ⟨N,0,none⟩=false) (h:Row w B v l) (hs:Small l.length) (hB:B<=w.heap.size) :
  Calls Tryz.prog 410 #[.agg #[.int .i64 x,.int .i64 y],.pointer (some ⟨N,0,none⟩)] w (Amk N B v (l++[(x,y)]) w):=by
 have hb:Below w.heap.size w ((w.alloc (.cells #[.int .i64 x,.int .i64 y] 224)).alloc (.cells #[.int .i64 x,.int .i64 y] 224)):=by go_grown
 have hNw:N<w.heap.size:=by omega
 have c0:(w.alloc (.cells #[.int .i64 x,.int .i64 y] 224)).cell? ⟨N,0,none⟩=some v:=Ad (by go_grown) hc
 have hown:∀ k,v.ownBlock=some k->k≠N:=fun k hk e=>by have:=Row.own w h k hk;omega
 have hd1:Bc ((w.alloc (.cells #[.int .i64 x,.int .i64 y] 224)).alloc (.cells #[.int .i64 x,.int .i64 y] 224)) (some ⟨w.heap.size+1,0,none⟩) 1 1 [(x,y)]:=by have:=Bc.one (w.alloc (.cells #[.int .i64 x,.int .i64 y] 224)) x y;simpa using this
 have D1:=Avp hd1;clear hd1
 have H:=Avp h;have HB:=Avp hb;have HC:=Avp hc;have HF:=Avp hf;have HO:=Avp hown
 clear h hb hc hf hown
 go_enter Tryz.func410,Tryz.ntmps410
 go_wp2_with (at_builtin;(refine Ow (B:=B) (l:=l) (k:=[(x,y)]) rfl rfl Tryz.underlying135 rfl rfl (Row.mono H.out HB.out) D1.out (by have:=hs.out;simp;omega) (by simp;omega) ?_;intro v' w' hr' hg' hw';simp only[Act.put,List.setIfInBounds_toArray,List.set_cons_zero,List.set_cons_succ];obtain⟨A',c',ev,hd'⟩:=Row.dots hr';subst ev;have cN:w'.cell? ⟨N,0,none⟩=some v:=hg'.cell (Ad HB.out HC.out) (fun e=>HO.out N e.symm rfl);have fN:w'.frozen? ⟨N,0,none⟩=false:=(World.frozen?_of_block (hg'.block N (by simp;omega) (fun e=>HO.out N e.symm rfl))).trans ((HB.out.frozen (p:=⟨N,0,none⟩) hNw).trans HF.out)))
 refine bodyPost_ret (results_none rfl _ _ _) rfl ?_
 have hne:∀ k,(Value.slice A' (l++[(x,y)]).length c').ownBlock=some k->k≠N:=fun k hk e=>by have:=Row.own w' hr' k hk;omega
 have elen:(l++[(x,y)]).length=l.length+1:=by simp
 rw[elen] at hr' hne hw'
 refine⟨rfl,⟨hg'.os.trans HB.out.os,hg'.tape.trans HB.out.tape,hg'.output.trans HB.out.output,?_,fun k hk h1 h2=>?_⟩,_,Ca cN,?_,Row.set_ hr' (p:=⟨N,0,none⟩) hne _,fun g hg=>?_⟩
 ·have h1:=HB.out.size;have h2:=hg'.size
  simp[World.setCell];omega
 ·rw[Below.heap_setCell _ _ _ _ h1,hg'.block k (by have:=HB.out.size;omega) (fun e=>h2 e.symm)]
  exact HB.out.block k hk
 ·exact(World.frozen?_setCell _ _ _ _).trans fN
 ·rcases hw' g hg with h | h
  ·exact .inl h
  ·exact .inr (by have:=HB.out.size;omega)
def Cg:List Dot->List Dot->List Dot
 | [],b=>b
 | a::s,[]=>a::s
 | a::s,b::t=>if Bp a b then a::Cg s (b::t) else if Bp b a then b::Cg (a::s) t else a::Cg s t
 termination_by a b=>a.length+b.length
theorem Ft:∀ (a b:List Dot) (x:Dot),x∈Cg a b↔x∈a∨x∈b
 | [],b,x=>by simp[Cg]
 | a::s,[],x=>by simp[Cg]
 | a::s,b::t,x=>by
  rw[Cg]
  split
  ·rw[List.mem_cons,Ft s (b::t) x,List.mem_cons (a:=x) (b:=a),or_assoc]
  ·split
   ·rw[List.mem_cons,Ft (a::s) t x,List.mem_cons (a:=x) (b:=b)]
    constructor
    ·rintro(h | h | h)
     ·exact .inr (.inl h)
     ·exact .inl h
     ·exact .inr (.inr h)
    ·rintro(h | h | h)
     ·exact .inr (.inl h)
     ·exact .inl h
     ·exact .inr (.inr h)
   ·rename_i h1 h2
    have e:a=b:=I8 (by simpa using h1) (by simpa using h2)
    subst e
    rw[List.mem_cons,Ft s t x,List.mem_cons,List.mem_cons]
    constructor
    ·rintro(h | h | h)
     ·exact .inl (.inl h)
     ·exact .inl (.inr h)
     ·exact .inr (.inr h)
    ·rintro((h | h) | (h | h))
     ·exact .inl h
     ·exact .inr (.inl h)
     ·exact .inl h
     ·exact .inr (.inr h)
 termination_by a b=>a.length+b.length
theorem Kj:∀ (a b:List Dot),Ord a->Ord b->Ord (Cg a b)
 | [],b,_,h=>by simpa [Cg] using h
 | a::s,[],h,_=>by simpa [Cg] using h
 | a::s,b::t,ha,hb=>by
  obtain⟨a1,a2⟩:=List.pairwise_cons.1 ha
  obtain⟨b1,b2⟩:=List.pairwise_cons.1 hb
  rw[Cg]
  split
  ·rename_i h1
   refine List.pairwise_cons.2 ⟨fun x hx=>?_,Kj s (b::t) a2 hb⟩
   rcases(Ft _ _ _).1 hx with h | h
   ·exact a1 x h
   ·rcases List.mem_cons.1 h with rfl | h
    ·exact h1
    ·exact Hi h1 (b1 x h)
  ·split
   ·rename_i _ h2
    refine List.pairwise_cons.2 ⟨fun x hx=>?_,Kj (a::s) t ha b2⟩
    rcases(Ft _ _ _).1 hx with h | h
    ·rcases List.mem_cons.1 h with rfl | h
     ·exact h2
     ·exact Hi h2 (a1 x h)
    ·exact b1 x h
   ·rename_i h1 h2
    have e:a=b:=I8 (by simpa using h1) (by simpa using h2)
    subst e
    refine List.pairwise_cons.2 ⟨fun x hx=>?_,Kj s t a2 b2⟩
    rcases(Ft _ _ _).1 hx with h | h
    ·exact a1 x h
    ·exact b1 x h
 termination_by a b=>a.length+b.length
theorem Z6 (a b:List Dot):Cg (Be a []) (Be b [])=Be a b:=
 Px (Kj _ _ (Fu _ _) (Fu _ _)) (Fu _ _) fun d=>by
  rw[Ft,Ha,Ha,Ha];simp
end Go.Proofs.YthnbhjpahlceeaaGreatDoor
