/-
  strings.Trim of blanks at any string; when nothing is trimmed.
-/
import Derived.Test.YthnbhjpahlceeaaGreatDoorTE
import Derived.Test.YthnbhjpahlceeaaGreatDoorTC
import Derived.Test.YthnbhjpahlceeaaGreatDoorTD
import Derived.Test.YthnbhjpahlceeaaGreatDoorTB
import Derived.KernelRfl
import Derived.StringKeys
import Derived.Maps.OwnSet
import Derived.WalkMore
set_option maxRecDepth 100000
set_option maxHeartbeats 8000000
set_option linter.unusedSectionVars false
set_option linter.unusedVariables false
set_option linter.unusedSimpArgs false
set_option maxRecDepth 100000
set_option maxHeartbeats 8000000
namespace Go.Proofs.YthnbhjpahlceeaaGreatDoor
open Go.RowKit
def Qs (s:List UInt8):List UInt8:=Ll (E7 s)
theorem Nw (s:List UInt8):(E7 s).length<=s.length:=by
 unfold E7
 rw[List.length_reverse]
 have:=(List.dropWhile_suffix (p:=fun c:UInt8=>c==32) (l:=s.reverse)).length_le
 rwa [List.length_reverse] at this
theorem Ad7:Enters Tryz.prog 315:=enters_of Tryz.func315 (by kernel_rfl) rfl
theorem Af3:Enters Tryz.prog 316:=enters_of Tryz.func316 (by kernel_rfl) rfl
theorem Ar9 (s:List UInt8) (w:World) (h0:s≠[]) (hs:s.length<=1000000):Calls Tryz.prog 246 #[Ac s,Ac [32]] w (Ret w (Is (Ac (Qs s)))):=by
 have e:(s==[])=false:=beq_eq_false_iff_ne.2 h0
 have e2:decide (s=[])=false:=decide_eq_false h0
 have e3:s.isEmpty=false:=by cases s with | nil=>exact absurd rfl h0 | cons _ _=>rfl
 have HS:=Avp hs
 clear hs
 go_enter Tryz.func246,Tryz.ntmps246
 go_wp2_with fail
 refine Am mixed (by kernel_rfl) ?_
 refine Ab.step (Ob.move Aa.free Has.oldIs) ?_
 refine Ab.step (Ob.move Aa.free Has.oldIs) ?_
 refine Ab.step (Ob.strIdx Aa.free (Has.new 1 0) (Has.cst _) (fun w1=>Adc w1)) ?_
 refine Ab.step (Ob.call2V Aa.free Af3 (Has.new 0 2) (Has.new 2 0) (fun w1 hb1=>Aqf s w1 HS.out)) ?_
 refine Ab.step (Ob.move Aa.free Has.oldIs) ?_
 refine Ab.step (Ob.strIdx Aa.free (Has.new 4 0) (Has.cst _) (fun w1=>Adc w1)) ?_
 refine Ab.step (Ob.call2V Aa.free Ad7 (Has.new 3 2) (Has.new 5 0) (fun w1 hb1=>Aqo (E7 s) w1 (Nat.le_trans (Nw s) HS.out))) ?_
 refine Ab.step (Ob.assign Aa.free (Has.new 6 0)) ?_
 simp only[Ab,Ao,List.map,Bq,List.reverse_cons,List.reverse_nil,List.nil_append,List.cons_append]
 intro wE hE
 iterate 8 (rintro _ rfl)
 simp only[Act.put,List.setIfInBounds_toArray,List.set_cons_zero,List.set_cons_succ]
 go_wp2
 go_ret
 exact⟨_,rfl,hE,rfl⟩
theorem Ahn {s:List UInt8} (h:s.head?≠some 32):Ll s=s:=by
 cases s with
 | nil=>rfl
 | cons a t=>
  have ha:(a==32)=false:=beq_eq_false_iff_ne.2 (by rintro rfl;exact h rfl)
  unfold Ll;rw[List.dropWhile_cons,ha];rfl
theorem Aii {s:List UInt8} (h:s.getLast?≠some 32):E7 s=s:=by
 rcases List.eq_nil_or_concat s with rfl | ⟨t,a,rfl⟩
 ·rfl
 ·rw[List.concat_eq_append] at *
  exact Oz t a (by rintro rfl;exact h (by simp))
theorem Tm (s:List UInt8):(Ll s).length<=s.length:=(List.dropWhile_suffix (p:=fun c:UInt8=>c==32) (l:=s)).length_le
theorem Aee (s:List UInt8):(Qs s==s)=(decide (s.head?≠some 32)&&decide (s.getLast?≠some 32)):=by
 rw[Bool.eq_iff_iff,beq_iff_eq,Bool.and_eq_true,decide_eq_true_iff,decide_eq_true_iff]
 constructor
 ·intro h
  have hl:(Qs s).length=s.length:=by rw[h]
  have h1:=Nw s
  have h2:=Tm (E7 s)
  unfold Qs at hl
  refine⟨fun hh=>?_,fun hh=>?_⟩
  ·cases s with
   | nil=>cases hh
   | cons a t=>
    obtain rfl:a=32:=by simpa using hh
    have:E7 (32::t)=32::t∨(E7 (32::t)).length<(32::t).length:=by
     rcases Nat.lt_or_ge (E7 (32::t)).length (32::t).length with h3 | h3
     ·exact .inr h3
     ·left
      have hp:E7 (32::t) <+: (32::t):=by
       unfold E7
       have:=(List.dropWhile_suffix (p:=fun c:UInt8=>c==32) (l:=(32::t).reverse))
       have h4:=List.reverse_prefix.2 this
       rwa [List.reverse_reverse] at h4
      exact hp.eq_of_length (by omega)
    rcases this with h3 | h3
    ·rw[h3] at hl
     have:(Ll (32::t)).length<=t.length:=Tm t
     simp at hl;omega
    ·omega
  ·rcases List.eq_nil_or_concat s with rfl | ⟨t,a,rfl⟩
   ·cases hh
   ·rw[List.concat_eq_append] at *
    obtain rfl:a=32:=by simpa using hh
    have h3:=Nw t
    rw[O5] at hl h2
    simp at hl;omega
 ·rintro⟨h1,h2⟩
  unfold Qs
  rw[Aii h2,Ahn h1]
theorem Mr:∀ s:List UInt8,(0<=Lib.index s [32,32]∨Lib.index s [32,32] = -1)∧decide (0<=Lib.index s [32,32]) = !Eq s
 | []=>by simp[Lib.index,Eq]
 | [a]=>by simp[Lib.index,Eq]
 | a::b::t=>by
  obtain⟨h1,h2⟩:=Mr (b::t)
  have e:Eq (a::b::t)=(!(a==32&&b==32)&&Eq (b::t)):=rfl
  have e2:Lib.index (a::b::t) [32,32]=if [32,32].isPrefixOf (a::b::t) then 0 else if Lib.index (b::t) [32,32] == -1 then -1 else Lib.index (b::t) [32,32]+1:=rfl
  have e3:([32,32]:List UInt8).isPrefixOf (a::b::t)=(a==32&&b==32):=by
   simp only[List.isPrefixOf,Bool.and_true]
   rw[BEq.comm (a:=(32:UInt8)) (b:=a),BEq.comm (a:=(32:UInt8)) (b:=b)]
  rw[e,e2,e3]
  cases hp:(a==32&&b==32) with
  | true=>simp
  | false=>
   simp only[Bool.false_eq_true,if_false,Bool.not_false,Bool.true_and]
   generalize Lib.index (b::t) [32,32]=i at *
   rcases h1 with h1 | h1
   ·have:(i == -1)=false:=by rw[beq_eq_false_iff_ne];omega
    rw[this]
    simp only[Bool.false_eq_true,if_false]
    refine⟨.inl (by omega),?_⟩
    rw[<-h2,decide_eq_true h1]
    exact decide_eq_true (by omega)
   ·subst h1
    refine⟨.inr rfl,?_⟩
    rw[<-h2];rfl
theorem Pm (s:List UInt8):Lib.contains s [32,32] = !Eq s:=by unfold Lib.contains;exact(Mr s).2
def okB (c:UInt8):Bool:=decide (32<=c.toNat)&&decide (c.toNat<=126)
theorem Agi (s:List UInt8) (t d:Bool) (ht:(Qs s==s)=t) (hd:Eq s=d):Gn s=(s.all okB&&(decide (1<=s.length)&&(decide (s.length<=64)&&(t&&d)))):=by
 rw[Aee] at ht
 rw[<-ht,<-hd]
 unfold Gn okB
 simp only[Bool.and_assoc]
def Ang (w:World) (n:Nat) (l:List UInt8) (i:Value) (wr:World):Prop:=∃ k:Nat,i = .int .i64 k∧k<=n∧Below w.heap.size w wr∧l.all okB=(l.drop k).all okB
theorem Atw (s:List UInt8) (w:World) (hs:s.length<=1000000) (m:Int) (hm:w.cell? ⟨2,0,none⟩=some (.int .i64 m)):Calls Tryz.prog 176 #[Ac s] w (Ret w (IsB (Gn s))):=by
 obtain⟨t9,ht9⟩:∃ t,(Qs s==s)=t:=⟨_,rfl⟩
 obtain⟨d9,hd9⟩:∃ d,Eq s=d:=⟨_,rfl⟩
 obtain⟨r,hr⟩:∃ r,r=Gn s:=⟨_,rfl⟩
 rw[<-hr]
 have HR:=Avp (hr.trans (Agi s t9 d9 ht9 hd9))
 have HT:=Avp ht9
 have HD:=Avp (show Lib.contains s [32,32] = !d9 by rw[Pm,hd9])
 have HS:=Avp hs
 have HM:=Avp hm
 clear hr hm ht9 hd9
 go_enter Tryz.func176,Tryz.ntmps176
 go_wp2_with fail
 rw[Qt]
 have hb2:=Fv w s
 have SL:=Avp (Ig w s hs)
 generalize Lib.bytesWorld w 5 ⟨⟨s⟩⟩=w2 at *
 generalize grownCap w s.length 0 5=G at *
 obtain⟨M,hM⟩:∃ M,M=w.heap.size:=⟨_,rfl⟩
 rw[<-hM] at SL ⊢
 have EM:=Avp hM
 have HB2:=Avp hb2;clear hb2 hM
 go_wp2
 go_loopw [8] (fun i wr=>Ang w2 s.length s i wr) (fun i _=>s.length - (intOf i).toNat)
 case atStart=>exact⟨0,rfl,Nat.zero_le _,Below.refl _ _,by rw[List.drop_zero]⟩
 case round=>
  obtain⟨k,rfl,hk,hb,hal⟩:=hrel
  have HB:=Avp hb;have AL:=Avp hal;have LK:=Avp hk
  clear hb hal hk
  by_cases hlt:k<s.length
  ·obtain⟨b,o,c,hA,hbk,hm,hd,c0⟩:=(SL.out.mono HB.out).byte (i:=k) hlt
   cases hA
   have c0':wr.cell? ⟨M,k,none⟩=some (.int .u8 c.toNat):=by simpa using c0
   have D1:=Avp hd;have LT:=Avp hlt
   have KB:=Avp (show okB c=(decide (32<=c.toNat)&&decide (c.toNat<=126)) from rfl)
   obtain⟨x,hx0⟩:∃ x,x=c.toNat:=⟨_,rfl⟩
   rw[<-hx0] at KB c0'
   clear hm hd c0 hbk hx0
   by_cases a1:x<32
   ·have HK:=Avp (show okB c=false by rw[KB.out,decide_eq_false (show ¬32<=x by omega)];rfl)
    have e:r=false:=by rw[HR.out,AL.out,D1.out,List.all_cons,HK.out];rfl
    subst e
    go_wp2
    go_ret
    exact Ay rfl (HB2.out.le HB.out)
   ·by_cases a2:126<x
    ·have HK:=Avp (show okB c=false by rw[KB.out,decide_eq_false (show ¬x<=126 by omega),Bool.and_false])
     have e:r=false:=by rw[HR.out,AL.out,D1.out,List.all_cons,HK.out];rfl
     subst e
     go_wp2
     go_ret
     exact Ay rfl (HB2.out.le HB.out)
    ·have HK:=Avp (show okB c=true by rw[KB.out,decide_eq_true (show 32<=x by omega),decide_eq_true (show x<=126 by omega)];rfl)
     go_wp2
     go_roundw
     case rel=>exact⟨k+1,by simp,LT.out,HB.out,by rw[AL.out,D1.out,List.all_cons,HK.out,Bool.true_and]⟩
     case measure=>simp[intOf];have:=LT.out;omega
  ·obtain hkn:k=s.length:=by have:=LK.out;omega
   have hall:s.all okB=true:=by rw[AL.out,hkn,List.drop_length];rfl
   have HALL:=Avp hall
   have HBW:=Avp (HB2.out.le HB.out)
   clear hall hkn
   by_cases l1:1<=s.length
   ·by_cases l2:s.length<=64
    ·have hne:s≠[]:=by rintro rfl;simp at l1
     have TR:=Avp (Ar9 s wr hne HS.out)
     have e:r=(t9&&d9):=by rw[HR.out,HALL.out,decide_eq_true l1,decide_eq_true l2];rfl
     subst e
     go_wp2_with fail
     refine TR.out.mono ?_
     rintro _ w3 ⟨_,rfl,hb3,rfl⟩
     have HB3:=Avp (HBW.out.le hb3)
     have CT:=Avp (show Calls Tryz.prog 230 #[Ac s,Ac [32,32]] w3 (fun e w'=>e = .returned (.bool (!d9))∧w'=w3) by
      rw[<-HD.out]
      exact Any.strings_Contains Tryz.hasL ⟨⟨s⟩⟩ ⟨⟨[32,32]⟩⟩ m w3 (by show s.length<4294967281;omega) (Ad HB3.out HM.out))
     clear hb3 TR
     cases t9 with
     | false=>
      have ht:=HT.out
      go_wp2
      go_ret
      exact Ay rfl HB3.out
     | true=>
      have ht:=HT.out
      go_wp2_with fail
      refine CT.out.mono ?_
      rintro _ _ ⟨rfl,rfl⟩
      cases d9
      all_goals
       go_wp2
       go_ret
       exact Ay rfl HB3.out
    ·have e:r=false:=by rw[HR.out,HALL.out,decide_eq_false l2];simp
     subst e
     go_wp2
     go_ret
     first | exact Ay rfl HBW.out | exact Ay (decide_eq_false (by omega)) HBW.out
   ·have e:r=false:=by rw[HR.out,HALL.out,decide_eq_false l1];simp
    subst e
    go_wp2
    go_ret
    first | exact Ay rfl HBW.out | exact Ay (decide_eq_false (by omega)) HBW.out
theorem Aal {w:World} {m:Int} (hm:w.cell? ⟨2,0,none⟩=some (.int .i64 m)):Bk w:=
 ⟨fun w' hb s hs=>Atw s w' hs m (Ad hb hm),fun w' _ s hs=>Asi s w' hs⟩
structure DBt (w:World) (J X:Nat) (A:Option Addr) (n c:Nat) (l:List Dot):Prop where
 at_:Bc w A n c l
 lo:∀ a,A=some a->J<a.block∧a.block<X
theorem DBt.low {w w':World} {J X C n c:Nat} {A:Option Addr} {l:List Dot} (h:DBt w J X A n c l) (hb:Below C w w') (hC:X<=C):DBt w' J X A n c l:=
 ⟨⟨h.at_.len,h.at_.cap,h.at_.max,h.at_.nil,fun i d hi=>by
  obtain⟨b,o,rfl,hlt,h1,h2⟩:=h.at_.cell i d hi
  have hbX:b<X:=(h.lo ⟨b,o,none⟩ rfl).2
  exact⟨b,o,rfl,Nat.lt_of_lt_of_le hlt hb.size,(hb.cell (p:=⟨b,_,none⟩) (show b<C by omega)).trans h1,(hb.cell (p:=⟨b,_,none⟩) (show b<C by omega)).trans h2⟩⟩,h.lo⟩
theorem DBt.wrote {w w':World} {J X R n c:Nat} {A:Option Addr} {l:List Dot} (h:DBt w J X A n c l) (hw:An R none w w') (hR:R<J):DBt w' J X A n c l:=
 ⟨h.at_.wroteC hw fun _ a e=>⟨by have:=(h.lo a e).1;omega,by simp⟩,h.lo⟩
structure K9 (B R J X:Nat) (w0:World) (l:List UInt8) (j:Nat) (p:CPl) (cx:Ctx) (u:Value) (acc:List As) (w:World):Prop where
 d:DSt B R J w0 l j cartZ.toList w
 x:Bx w X [.slice p.A p.n p.ca,.slice p.B p.m p.cb,u]
 o:Hs w (X+1) u acc
 v:DBt w J X p.A p.n p.ca cx.1
 c:DBt w J X p.B p.m p.cb cx.2
 lt:J<X
section
variable {B R J X Y j j':Nat} {w0 w w':World} {l:List UInt8} {p:CPl} {cx:Ctx} {u u':Value} {acc acc':List As}
theorem K9.r (h:K9 B R J X w0 l j p cx u acc w):R<J:=by have:=h.d.rd.lt;have:=h.d.hB;have:=h.d.hJ;omega
theorem K9.step (h:K9 B R J X w0 l j p cx u acc w) (hw:An R none w w') (hr:De B R l j' w'):K9 B R J X w0 l j' p cx u acc w':=
 ⟨h.d.step hw hr,h.x.wrote hw (by have:=h.r;have:=h.lt;omega) (by simp),h.o.wrote hw (by have:=h.r;have:=h.lt;omega),h.v.wrote hw h.r,h.c.wrote hw h.r,h.lt⟩
theorem K9.mono (h:K9 B R J X w0 l j p cx u acc w) (hb:Below w.heap.size w w'):K9 B R J X w0 l j p cx u acc w':=⟨h.d.mono hb,h.x.mono hb,h.o.mono hb,h.v.low hb (Nat.le_of_lt h.x.lt),h.c.low hb (Nat.le_of_lt h.x.lt),h.lt⟩
theorem K9.put (h:K9 B R J X w0 l j p cx u acc w) (hb:Below (X+1) w w') (ho:Hs w' (X+1) u' acc'):K9 B R J X w0 l j p cx u' acc' (w'.setCell ⟨X,2,none⟩ u'):=by
 have x1:=h.x.low hb (Nat.lt_succ_self _)
 obtain⟨x2,u2⟩:=x1.one (j:=2) (v:=u') (by simp)
 have uw:Below X w' (w'.setCell ⟨X,2,none⟩ u'):=u2.below (Nat.le_refl _)
 exact⟨(h.d.low hb (by have:=h.lt;omega)).upd u2 h.lt,x2,ho.upd u2 (Nat.lt_succ_self _),(h.v.low hb (by omega)).low uw (Nat.le_refl _),(h.c.low hb (by omega)).low uw (Nat.le_refl _),h.lt⟩
end
def Ar5 (B R J X:Nat) (w0:World) (l:List UInt8) (p:CPl) (cx:Ctx) (k:Nat) (MT:Option (List As×Nat)) (s:Value) (wr:World):Prop:=
 ∃ (m:Nat) (acc:List As) (j:Nat) (u:Value),s = .int .u64 (m:Nat)∧m<18446744073709551616∧K9 B R J X w0 l j p cx u acc wr∧k<=j∧acc.length+(Cn acc).length+k<=j∧MT=Dn acc (j - k) (Du m (l.drop j))
theorem Abp {m:Nat} {r:List UInt8} (h1:Lk r=none):Du (m+1) r=none:=by unfold Du;rw[h1]
theorem Vy {m:Nat} {r:List UInt8} {acc:List As} {c:Nat} {x:As} {u:Nat} (h1:Lk r=some (x,u)):Dn acc c (Du (m+1) r)=Dn (acc++[x]) (c+u) (Du m (r.drop u)):=by
 rw[show Du (m+1) r=Hy x u (Du m (r.drop u)) by show(match Lk r with | none=>none | some (d,u)=>Hy d u (Du m (r.drop u)))=_;rw[h1]]
 exact Kx _ _ _ _ _
theorem K9.cart {B R J X:Nat} {w0:World} {l:List UInt8} {j n c:Nat} {A:Option Addr} {p:CPl} {cx:Ctx} {acc:List As} {w:World} (h:K9 B R J X w0 l j p cx (.slice A n c) acc w):Bg (fun b=>J<b∧b≠X) w ⟨p.A,p.n,p.ca,p.B,p.m,p.cb,A,n,c⟩ ⟨cx,acc⟩:=by
 obtain⟨A',c',e,hi⟩:=h.o.its
 cases e
 have hlt:=h.lt
 exact⟨h.v.at_,h.c.at_,hi.mono (Below.refl _ _) fun b hb=>⟨by omega,by omega⟩,fun a e=>⟨(h.v.lo a e).1,by have:=(h.v.lo a e).2;omega⟩,fun a e=>⟨(h.c.lo a e).1,by have:=(h.c.lo a e).2;omega⟩⟩
theorem Aak.parts {b:Nat} {c:Ctx} {w:World} {v:Value} (h:Aak b c w v):∃ A n ca A' m cb,v = .agg #[.slice A n ca,.slice A' m cb]∧n=c.1.length∧m=c.2.length∧Bc w A n ca c.1∧Bc w A' m cb c.2∧(∀ a,A=some a->b<=a.block∧a.block<w.heap.size)∧(∀ a,A'=some a->b<=a.block∧a.block<w.heap.size):=by
 obtain⟨A,n,ca,A',m,cb,rfl,r1,r2⟩:=h
 obtain⟨_,_,e1,d1,i1⟩:=Kk r1
 obtain⟨_,_,e2,d2,i2⟩:=Kk r2
 cases e1;cases e2
 exact⟨_,_,_,_,_,_,rfl,rfl,rfl,d1,d2,i1,i2⟩
theorem Aih.off {b:Nat} {x:As} {w:World} {v:Value} (h:Aih b x w v) (ht:x.1.length<=1000000) (htm:∀ m∈x.2,Jk m) {B:Nat} {r:Option Nat} (hB:B<=b) (hr:∀ q,r=some q->q<b):∃ e:ItE,e.s=x∧v=itV e∧Pk w B r e:=by
 obtain⟨A,c,rfl,ho⟩:=h
 refine⟨⟨x.1,x.2,A,x.2.length,c⟩,rfl,rfl,?_⟩
 obtain⟨_,_,e,hs⟩:=Ag.sl ho
 cases e
 have key:∀ a,A=some a->b<=a.block∧a.block<w.heap.size:=fun a e=>ho.own a.block (by rw[e];rfl)
 exact⟨hs,fun a e=>(key a e).2,fun a e h2=>by have:=(key a e).1;have:=hr _ h2.symm;omega,fun a e=>by have:=(key a e).1;omega,htm,ht⟩
def Iv (w:World):Prop:=∃ m,w.cell? ⟨2,0,none⟩=some (.int .i64 m)
theorem Iv.ok {w:World} (h:Iv w):Bk w:=let ⟨_,hm⟩:=h;Aal hm
theorem Iv.mono {w w':World} (h:Iv w) (hb:Below w.heap.size w w'):Iv w':=let ⟨m,hm⟩:=h;⟨m,Ad hb hm⟩
theorem Iv.wrote {w w':World} {N:Nat} (h:Iv w) (hw:An N none w w') (hn:2≠N):Iv w':=let ⟨m,hm⟩:=h;⟨m,hw.cell hm hn (by simp)⟩
theorem Iv.lt {w:World} (h:Iv w):2<w.heap.size:=let ⟨_,hm⟩:=h;World.block_lt_of_cell? w _ hm
theorem Iv.low {w w':World} {C:Nat} (h:Iv w) (hb:Below C w w') (hn:2<C):Iv w':=let ⟨m,hm⟩:=h;⟨m,(World.cell?_of_block (a:=⟨_,0,none⟩) (hb.block _ hn)).trans hm⟩
theorem Below.dr (w:World):Below w.heap.size w w.drew:=(Below.refl _ w).drew
theorem Ac7 (w:World) (e:ItE):Sl encIt (w.alloc (.cells (itC e) 246)) (some ⟨w.heap.size,0,none⟩) 1 1 [e]:=Sl.new encIt w [e] (by simp) (itC e) (by simp[Enc.all,encIt]) 246
def Q6 (n:Nat) (x:UInt8):Nat:=(n ^^^ x.toNat)*16777619 % 4294967296
def Lq (s:List UInt8):Nat:=s.foldl Q6 2166136261
def Bs (s:List UInt8) (k:Nat):Nat:=Lq s % k
structure N1 (w:World):Prop where
 c0:w.cell? ⟨1,0,none⟩=some (.int .u32 2166136261)
 c1:w.cell? ⟨1,1,none⟩=some (.int .u32 16777619)
theorem N1.mono {w w':World} (h:N1 w) (hb:Below w.heap.size w w'):N1 w':=⟨Ad hb h.c0,Ad hb h.c1⟩
theorem N1.lt {w:World} (h:N1 w):1<w.heap.size:=World.block_lt_of_cell? w _ h.c0
theorem N1.low {w w':World} {C:Nat} (h:N1 w) (hb:Below C w w') (hn:1<C):N1 w':=⟨(World.cell?_of_block (a:=⟨_,0,none⟩) (hb.block _ hn)).trans h.c0,(World.cell?_of_block (a:=⟨_,1,none⟩) (hb.block _ hn)).trans h.c1⟩
theorem Ve (n:Nat) (x:UInt8):Q6 n x<4294967296:=Nat.mod_lt _ (by decide)
theorem Aq4 (s:List UInt8):Lq s<4294967296:=by
 unfold Lq
 have:∀ (l:List UInt8) (m:Nat),m<4294967296->l.foldl Q6 m<4294967296:=by
  intro l
  induction l with
  | nil=>exact fun m h=>h
  | cons x t ih=>exact fun m _=>ih _ (Ve m x)
 exact this s _ (by decide)
def Aqb (w:World) (q:List UInt8) (s i:Value) (wr:World):Prop:=∃ k a:Nat,i = .int .i64 k∧k<=q.length∧s = .int .u32 a∧a<4294967296∧Below w.heap.size w wr∧Lq q=(q.drop k).foldl Q6 a
theorem Aq6 (s:List UInt8) (w:World) (h:N1 w) (hs:s.length<=1000000):Calls Tryz.prog 287 #[Ac s] w (Ret w (IsK .u32 (Lq s))):=by
 have hbig:(s.length:Int)<=9223372036854775807:=by omega
 have c0:=h.c0;have c1:=h.c1
 have GA:=Avp h
 have HS:=Avp hs
 clear h hs
 go_enter Tryz.func287,Tryz.ntmps287
 go_wp2_with fail
 rw[Qt]
 have hb2:=Fv w s
 have SL:=Avp (Ig w s HS.out)
 generalize Lib.bytesWorld w 5 ⟨⟨s⟩⟩=w2 at *
 generalize grownCap w s.length 0 5=G at *
 obtain⟨M,hM⟩:∃ M,M=w.heap.size:=⟨_,rfl⟩
 rw[<-hM] at SL ⊢
 have HB2:=Avp hb2
 have G2:=Avp (GA.out.mono hb2)
 clear hb2 hM c0 c1
 go_wp2
 go_loopw [3,11] (fun n i wr=>Aqb w2 s n i wr) (fun _ i _=>s.length - (intOf i).toNat)
 case atStart=>exact⟨0,2166136261,rfl,Nat.zero_le _,rfl,by decide,Below.refl _ _,by simp[Lq]⟩
 case round=>
  obtain⟨k,a,rfl,hk,rfl,ha,hb,he⟩:=hrel
  have HB:=Avp hb;have HE:=Avp he;have LK:=Avp hk;have LA:=Avp ha
  clear hb he hk ha
  by_cases hlt:k<s.length
  ·obtain⟨b,o,c,hA,hbk,hm,hd,c0⟩:=(SL.out.mono HB.out).byte (i:=k) hlt
   cases hA
   have c0':wr.cell? ⟨M,k,none⟩=some (.int .u8 c.toNat):=by simpa using c0
   have D1:=Avp hd;have LT:=Avp hlt
   have g1:=(G2.out.mono HB.out).c1
   have hcl:=c.toNat_lt
   have hw:IntKind.u32.wrap (c.toNat:Int)=(c.toNat:Int):=M3 (by omega)
   have hxr:=Pr LA.out (show c.toNat<4294967296 by omega)
   have FN:=Avp (show((a ^^^ c.toNat:Nat):Int)*16777619 % 4294967296=((Q6 a c:Nat):Int) by unfold Q6;omega)
   clear hm hd c0 hbk hcl
   go_wp2
   go_roundw
   case rel=>exact⟨k+1,Q6 a c,by simp,LT.out,by rw[FN.out],Ve _ _,HB.out,by rw[HE.out,D1.out];rfl⟩
   case measure=>simp[intOf];have:=LT.out;omega
  ·obtain hkn:k=s.length:=by have:=LK.out;omega
   have e:=HE.out
   rw[hkn,List.drop_length] at e
   have E:=Avp (show Lq s=a from e)
   clear hkn e
   go_wp2
   go_ret
   exact Aju (by rw[E.out]) (HB2.out.le HB.out)
theorem Uy (s:List UInt8) (k:Nat) (w:World) (h:N1 w) (hs:s.length<=1000000) (h1:1<=k) (h2:k<=1024):Calls Tryz.prog 214 #[Ac s,.int .i64 (k:Int)] w (Ret w (Is (.tuple #[.int .i64 (Bs s k:Nat),.int .i64 0]))):=by
 have F:=Avp (Aq6 s w h hs)
 have hl1:¬(k:Int)<1:=by omega
 have hl2:¬(1024:Int)<(k:Int):=by omega
 have hw:IntKind.u32.wrap (k:Int)=(k:Int):=M3 (by omega)
 have hk0:¬(k:Int)=0:=by omega
 have hst:Bs s k<1024:=Nat.lt_of_lt_of_le (Nat.mod_lt _ (by omega)) h2
 have hr:(Lq s:Int) % (k:Int)=(Bs s k:Nat):=by unfold Bs;omega
 clear h hs
 go_enter Tryz.func214,Tryz.ntmps214
 go_wp2_with fail
 refine F.out.mono ?_
 rintro _ w1 ⟨_,rfl,hb1,rfl⟩
 have HB:=Avp hb1
 clear hb1 F
 go_wp2
 refine bodyPost_ret (v:=.tuple #[.int .i64 (Bs s k:Nat),.int .i64 0]) (by simp[results,Tryz.results214,go_sem]) rfl ?_
 exact⟨_,rfl,HB.out,rfl⟩
def Ij (k:Nat) (l:List Int) (s:List UInt8):List Int:=l.set (Bs s k) (l.getD (Bs s k) 0+1)
def Ci (ks:List (List UInt8)) (k:Nat):List Int:=ks.foldl (Ij k) (List.replicate k 0)
def Hm (l:List Int) (j:Nat):List Int:=((List.range j).filter fun i=>decide (0<l.getD i 0)).map Int.ofNat
def Jn (ks:List (List UInt8)) (k:Nat):List Int:=Hm (Ci ks k) k
theorem Ahs (k:Nat) (l:List Int) (s:List UInt8):(Ij k l s).length=l.length:=by simp[Ij]
theorem Pe (k:Nat):∀ (ks:List (List UInt8)) (l:List Int),(ks.foldl (Ij k) l).length=l.length
 | [],_=>rfl
 | s::t,l=>by rw[List.foldl_cons,Pe k t,Ahs]
theorem Fz (ks:List (List UInt8)) (k:Nat):(Ci ks k).length=k:=by unfold Ci;rw[Pe];simp
theorem Om {ks:List (List UInt8)} {k j:Nat} {s:List UInt8} (h:ks[j]?=some s):Ci (ks.take (j+1)) k=Ij k (Ci (ks.take j) k) s:=by
 unfold Ci
 rw[Cc h,List.foldl_append];rfl
theorem Gk {l:List Int} {j:Nat} (h:0<l.getD j 0):Hm l (j+1)=Hm l j++[(j:Int)]:=by
 unfold Hm;rw[List.range_succ,List.filter_append];simp at h;simp[h]
theorem Hz {l:List Int} {j:Nat} (h:¬0<l.getD j 0):Hm l (j+1)=Hm l j:=by
 unfold Hm;rw[List.range_succ,List.filter_append];simp at h;simp[h]
theorem Acs (l:List Int) (j:Nat):(Hm l j).length<=j:=by
 unfold Hm;rw[List.length_map];exact Nat.le_trans (List.length_filter_le _ _) (by simp)
theorem Yw (k:Nat) (l:List Int) (s:List UInt8):∀ j,(Hm (Ij k l s) j).length<=(Hm l j).length+(if Bs s k<j then 1 else 0)
 | 0=>by simp[Hm]
 | j+1=>by
  have ih:=Yw k l s j
  by_cases e:Bs s k=j
  ·rw[if_neg (by omega)] at ih
   rw[if_pos (by omega)]
   by_cases h1:0<(Ij k l s).getD j 0 <;> by_cases h2:0<l.getD j 0
   ·rw[Gk h1,Gk h2];simp;omega
   ·rw[Gk h1,Hz h2];simp;omega
   ·rw[Hz h1,Gk h2];simp;omega
   ·rw[Hz h1,Hz h2];omega
  ·have e2:(Ij k l s).getD j 0=l.getD j 0:=by
    unfold Ij
    rw[List.getD_eq_getElem?_getD,List.getElem?_set_ne e,<-List.getD_eq_getElem?_getD]
   have e3:(if Bs s k<j+1 then 1 else 0)=(if Bs s k<j then 1 else 0):=by
    by_cases h:Bs s k<j
    ·rw[if_pos h,if_pos (by omega)]
    ·rw[if_neg h,if_neg (by omega)]
   rw[e3]
   by_cases h2:0<l.getD j 0
   ·have h1:0<(Ij k l s).getD j 0:=by rw[e2];exact h2
    rw[Gk h1,Gk h2];simp;omega
   ·have h1:¬0<(Ij k l s).getD j 0:=by rw[e2];exact h2
    rw[Hz h1,Hz h2];omega
theorem Af8 (k j:Nat):(Hm (List.replicate k 0) j).length=0:=by
 unfold Hm
 rw[List.length_map,List.length_eq_zero_iff,List.filter_eq_nil_iff]
 intro i _
 rw[List.getD_eq_getElem?_getD,List.getElem?_replicate]
 split <;> simp
theorem Akk (ks:List (List UInt8)) (k:Nat):(Jn ks k).length<=ks.length:=by
 unfold Jn Ci
 have:∀ (ks:List (List UInt8)) (l:List Int),(Hm (ks.foldl (Ij k) l) k).length<=(Hm l k).length+ks.length:=by
  intro ks
  induction ks with
  | nil=>intro l;simp
  | cons s t ih=>
   intro l
   have h1:=ih (Ij k l s)
   have h2:=Yw k l s k
   rw[List.foldl_cons]
   have h3:(if Bs s k<k then 1 else 0)<=1:=by split <;> omega
   simp only[List.length_cons]
   omega
 have h:=this ks (List.replicate k 0)
 rw[Af8] at h
 omega
theorem An8 (k:Nat) (l:List Int) (s:List UInt8) (b:Int) (h:∀ x∈l,0<=x∧x<=b):0<=b->∀ x∈Ij k l s,0<=x∧x<=b+1:=by
 intro hb x hx
 unfold Ij at hx
 rcases List.mem_or_eq_of_mem_set hx with h1 | h1
 ·have:=h x h1;omega
 ·rw[h1,List.getD_eq_getElem?_getD]
  cases he:l[Bs s k]? with
  | none=>simp;omega
  | some y=>have:=h y (List.mem_of_getElem? he);simp;omega
theorem Ti (ks:List (List UInt8)) (k:Nat):∀ x∈Ci ks k,0<=x∧x<=ks.length:=by
 have:∀ (ks:List (List UInt8)) (l:List Int) (b:Int),0<=b->(∀ x∈l,0<=x∧x<=b)->∀ x∈ks.foldl (Ij k) l,0<=x∧x<=b+ks.length:=by
  intro ks
  induction ks with
  | nil=>intro l b _ h x hx;have:=h x hx;simp;omega
  | cons s t ih=>
   intro l b hb h x hx
   have:=ih (Ij k l s) (b+1) (by omega) (An8 k l s b h hb) x hx
   simp only[List.length_cons]
   omega
 intro x hx
 have:=this ks (List.replicate k 0) 0 (by omega) (fun x hx=>by have:=List.eq_of_mem_replicate hx;omega) x hx
 omega
theorem Afg (a b:List UInt8):Fa [a,b]=if a<=b then [a,b] else [b,a]:=by
 unfold Fa
 simp[List.mergeSort,List.MergeSort.Internal.splitInTwo,List.merge]
theorem Un (a:List UInt8):Fa [a]=[a]:=by
 unfold Fa;simp
theorem sortS_nil:Fa []=[]:=by unfold Fa;simp
def Lo (l:List (List UInt8)) (s:List UInt8):Nat:=(l.takeWhile fun x=>decide (x<s)).length
def Qq (l:List (List UInt8)) (s:List UInt8):List (List UInt8):=l.take (Lo l s)++([s]++l.drop (Lo l s))
def Lf (l:List (List UInt8)):List (List UInt8):=l.foldl Qq []
theorem Akh:∀ l:List (List UInt8),l.length<=2->Lf l=Fa l
 | [],_=>sortS_nil.symm
 | [a],_=>by rw[Un];rfl
 | [a,b],_=>by
  rw[Afg]
  have h0:Qq [] a=[a]:=rfl
  unfold Lf
  rw[List.foldl_cons,List.foldl_cons,List.foldl_nil,h0]
  unfold Qq Lo
  by_cases h:a<b
  ·have h2:a<=b:=by exact List.le_of_lt h
   rw[if_pos h2];simp[List.takeWhile,h]
  ·have h1:b<=a:=List.not_lt.1 h
   by_cases h2:a<=b
   ·have e:a=b:=List.le_antisymm h2 h1
    subst e
    rw[if_pos h2];simp[List.takeWhile,h]
   ·rw[if_neg h2];simp[List.takeWhile,h]
 | a::b::c::t,h=>by simp at h
def encI:Enc Int:=⟨1,fun x=>[.int .i64 x],fun _=>rfl,fun x u hu=>by rw[List.mem_singleton.1 hu];rfl⟩
theorem Sl.int {w:World} {A:Option Addr} {n c:Nat} {l:List Int} (h:Sl encI w A n c l) {i:Nat} (hi:i<n):∃ b o x,A=some ⟨b,o,none⟩∧b<w.heap.size∧l[i]?=some x∧l.drop i=x::l.drop (i+1)∧w.cell? ⟨b,o+i,none⟩=some (.int .i64 x):=by
 obtain⟨b,o,x,h1,h2,h3,h4,h5⟩:=h.at_ hi
 refine⟨b,o,x,h1,h2,h3,h4,?_⟩
 have:=h5 0 _ rfl
 simpa [encI] using this
theorem Ati:Inf Tryz.prog 3 encI 8:=by
 obtain⟨i,h1,h2,h3,h4⟩:=info_parts (P:=Tryz.prog) (show(Tryz.prog.info? 3).map (fun i=>(i.zero,i.size,i.bytes))=some (some (.int .i64 0),1,8) by kernel_rfl)
 exact⟨⟨i,_,h1,h2,h3,h4,rfl⟩,by decide,by decide⟩
theorem Me (n:Nat):(madeCells (Value.int .i64 0).cells (n*1)).toList=encI.all (List.replicate n 0):=by
 apply List.ext_getElem?
 intro j
 rw[Array.getElem?_toList]
 by_cases h:j<n
 ·rw[Sx _ (by decide) _ j (by omega)]
  have h1:(List.replicate n (0:Int))[j]?=some 0:=by rw[List.getElem?_replicate,if_pos h]
  have:=Enc.all_get (e:=encI) _ j 0 h1 0 (.int .i64 0) rfl
  rw[show j*encI.z+0=j by simp[encI]] at this
  rw[this]
  simp[Value.cells,Nat.mod_one]
 ·have e1:(encI.all (List.replicate n (0:Int)))[j]?=none:=by rw[List.getElem?_eq_none_iff,Enc.all_length];simp[encI];omega
  rw[e1,Array.getElem?_eq_none_iff]
  simp[madeCells];omega
theorem Sl.clip {w:World} {A:Option Addr} {n c:Nat} {l:List Int} (h:Sl encI w A n c l):Sl encI w A n n l:=⟨h.len,Nat.le_refl _,Nat.le_trans h.cap h.max,fun e=>by have:=h.nil e;have:=h.cap;omega,h.cell⟩
theorem Fl (w:World) (x:Int) (ty:TypeId):Sl encI (w.alloc (.cells #[.int .i64 x] ty)) (some ⟨w.heap.size,0,none⟩) 1 1 [x]:=Sl.new encI w [x] (by simp) #[.int .i64 x] rfl ty
theorem Ag.frozen {α:Type} {e:Enc α} {ty:TypeId} {w:World} {B g n cap:Nat} {l:List α} (h:Ag e ty w B (.slice (some ⟨g,0,none⟩) n cap) l) (j:Nat):w.frozen? ⟨g,j,none⟩=false:=by
 obtain rfl:=h.lenEq
 exact World.ownsRow.frozenAt h j
def J8 (l:List Int) (w:World) (v:Value):Prop:=∃ A n c,v = .slice A n c∧Sl encI w A n c l
instance (l:List Int):Grows (J8 l):=⟨fun hb ⟨A,n,c,e,h⟩=>⟨A,n,c,e,h.mono hb⟩⟩
structure Kh (w:World) (C:Nat) (r n:Int):Prop where
 c0:w.cell? ⟨C,0,none⟩=some (.int .i64 r)
 c1:w.cell? ⟨C,1,none⟩=some (.int .i64 n)
theorem Kh.mono {w w':World} {C:Nat} {r n:Int} (h:Kh w C r n) (hb:Below w.heap.size w w'):Kh w' C r n:=⟨Ad hb h.c0,Ad hb h.c1⟩
theorem Apq {w:World} {C:Nat} {r n:Int} (h:Kh w C r n):Calls Tryz.prog 273 #[.pointer (some ⟨C,0,none⟩)] w (Ret w (IsB (r==0))):=by
 have h0:=h.c0
 cases hr:(r==0) with
 | true=>
  go_enter Tryz.func273,Tryz.ntmps273
  go_wp2
  go_ret
  exact Ay (by simp[hr]) (Below.refl _ _)
 | false=>
  go_enter Tryz.func273,Tryz.ntmps273
  go_wp2
  go_ret
  exact Ay (by simp[hr]) (Below.refl _ _)
theorem Apv {w:World} {C:Nat} {r n:Int} (h:Kh w C r n) (h0:0<=n) (h1:n<=4294967295):Calls Tryz.prog 252 #[.pointer (some ⟨C,0,none⟩)] w (Ret w (IsI (if r==0 then 0 else 4294967295 - n))):=by
 have H:=Avp h
 have F:=Avp (Apq h)
 cases hr:(r==0) with
 | true=>
  rw[hr] at F
  clear h hr
  go_enter Tryz.func252,Tryz.ntmps252
  go_wp2_with fail
  refine F.out.mono ?_
  rintro _ w1 ⟨_,rfl,hb1,rfl⟩
  go_wp2
  go_ret
  exact⟨_,rfl,hb1,rfl⟩
 | false=>
  rw[hr] at F
  clear h hr
  go_enter Tryz.func252,Tryz.ntmps252
  go_wp2_with fail
  refine F.out.mono ?_
  rintro _ w1 ⟨_,rfl,hb1,rfl⟩
  have c1:=(H.out.mono hb1).c1
  have hw:IntKind.i64.wrap (4294967295 - n)=4294967295 - n:=by simp[IntKind.wrap,IntKind.bits,IntKind.signed];omega
  go_wp2
  go_ret
  exact⟨_,rfl,hb1,rfl⟩
def Ah5 (l:List EnS) (k:List UInt8):Nat->Bool
 | 0=>true
 | i+1=>match l[i]? with | none=>true | some p=>Op.bytesLess p.1 k
def okE (l:List EnS) (j:Nat):Bool:=match l[j]? with | none=>true | some x=>Dr x.1&&(Bo x.2&&Ah5 l x.1 j)
def Cf (l:List EnS):Bool:=(List.range l.length).all (okE l)
theorem Xb {l:List EnS}:Cf l=true↔∀ j,j<l.length->okE l j=true:=by unfold Cf;rw[List.all_eq_true];simp
theorem Vx {l:List EnS} {j:Nat} (hj:j<l.length) (h:okE l j=false):Cf l=false:=by
 cases h2:Cf l with
 | false=>rfl
 | true=>rw[Xb.1 h2 j hj] at h;cases h
theorem Qm {l:List EnS} {j:Nat} {x:EnS} {a b:Bool} (h:l[j]?=some x) (ha:Dr x.1=a) (hb:Bo x.2=b):okE l j=(a&&(b&&Ah5 l x.1 j)):=by simp only[okE,h,ha,hb]
structure Aso (w:World) (l:List EnS) (k:Nat) (wr:World):Prop where
 le:Below w.heap.size w wr
 ok:∀ j,j<k->okE l j=true
def Aou (w:World) (n:Nat) (l:List EnS) (i:Value) (wr:World):Prop:=∃ k:Nat,i = .int .i64 k∧k<=n∧Aso w l k wr
theorem Ann (w:World) (e:EnE):Below w.heap.size w (w.alloc (.cells (enC e) 143))∧(w.alloc (.cells (enC e) 143)).cell? ⟨w.heap.size,0,none⟩=some (Ac e.k)∧(w.alloc (.cells (enC e) 143)).cell? ⟨w.heap.size,1,none⟩=some (.slice e.p.A e.p.n e.p.ca)∧(w.alloc (.cells (enC e) 143)).cell? ⟨w.heap.size,2,none⟩=some (.slice e.p.B e.p.m e.p.cb)∧(w.alloc (.cells (enC e) 143)).cell? ⟨w.heap.size,3,none⟩=some (.slice e.p.C e.p.k e.p.cc):=
 ⟨by go_grown,by simp[go_sem],by simp[go_sem],by simp[go_sem],by simp[go_sem]⟩
structure Td (w:World) (J:Nat) (e:EnE):Prop where
 c0:w.cell? ⟨J,0,none⟩=some (Ac e.k)
 c1:w.cell? ⟨J,1,none⟩=some (.slice e.p.A e.p.n e.p.ca)
 c2:w.cell? ⟨J,2,none⟩=some (.slice e.p.B e.p.m e.p.cb)
 c3:w.cell? ⟨J,3,none⟩=some (.slice e.p.C e.p.k e.p.cc)
theorem Td.cart {w0 w:World} {J:Nat} {e:EnE} (h:Td w0 J e) (hb:Below w0.heap.size w0 w):(Instr.loadAt 141 (.pointer (some ⟨J,1,none⟩))).run Tryz.prog w = .ok (Cd e.p) w:=by
 have c1:=Ad hb h.c1;have c2:=Ad hb h.c2;have c3:=Ad hb h.c3
 simp[go_sem,c1,c2,c3]
theorem Td.key {w0 w:World} {J:Nat} {e:EnE} (h:Td w0 J e) (hb:Below w0.heap.size w0 w):(Instr.loadAt 9 (.pointer (some ⟨J,0,none⟩))).run Tryz.prog w = .ok (Ac e.k) w:=Fd hb h.c0
theorem Ej {w:World} {b o:Nat}:(Instr.fieldAt 143 (.pointer (some ⟨b,o,none⟩)) 0).run Tryz.prog w = .ok (.pointer (some ⟨b,o,none⟩)) w:=by simp[go_sem]
theorem Kz {w:World} {b:Nat}:(Instr.fieldAt 143 (.pointer (some ⟨b,0,none⟩)) 1).run Tryz.prog w = .ok (.pointer (some ⟨b,1,none⟩)) w:=by simp[go_sem]
theorem Hf:Enters Tryz.prog 137:=enters_of Tryz.func137 (by kernel_rfl) rfl
theorem I4:Enters Tryz.prog 190:=enters_of Tryz.func190 (by kernel_rfl) rfl
theorem Iu {D:Nat->Prop} {A:Option Addr} {n c:Nat} {l:List EnS} {w:World} (h:Cb D w A n c l) (hn:Bk w):Calls Tryz.prog 229 #[.slice A n c] w (Ret w (IsB (Cf l))):=by
 obtain⟨es,he,h1,_,h3⟩:=h
 have hb:=h1.big
 have H:=Avp h1;have HI:=Avp h3;have HE0:=Avp he;have NM:=Avp hn
 have HL:=Avp (show n=l.length by rw[h1.len,<-he,List.length_map])
 clear h1 h3 he hn
 go_enter Tryz.func229,Tryz.ntmps229
 go_wp2
 go_loopw [7] (fun i wr=>Aou w n l i wr) (fun i _=>n - (intOf i).toNat)
 case atStart=>exact⟨0,rfl,Nat.zero_le _,Below.refl _ _,fun j hj=>by omega⟩
 case round=>
  obtain⟨k,rfl,hk,hat⟩:=hrel
  have AT:=Avp hat;have LK:=Avp hk
  clear hat hk
  by_cases hlt:k<n
  ·obtain⟨b,o,m,hA,hbl,hm,_,c0,c1,c2,c3⟩:=(H.out.mono AT.out.le).entry hlt
   have hix:=(show(Instr.indexAt 118 (.slice A n c) (.int .i64 (k:Int))).run Tryz.prog wr = .ok (.pointer (some ⟨b,o+k*4,none⟩)) wr by rw[hA];simp[go_sem,hlt])
   have hl2:l[k]?=some m.s:=by rw[<-HE0.out,List.getElem?_map,hm];rfl
   have hmem:=List.mem_of_getElem? hm
   have EX:=Avp hl2
   have LT:=Avp (show k<l.length by rw[<-HL.out];exact hlt)
   obtain⟨hax,y0,y1,y2,y3⟩:=Ann wr m
   have HX:=Avp hax
   obtain⟨J,hJ⟩:∃ J,J=wr.heap.size:=⟨_,rfl⟩
   have EJ:=Avp hJ
   rw[<-hJ] at y0 y1 y2 y3
   have Y:=Avp (Td.mk y0 y1 y2 y3)
   have C1:=Avp (fun w1 (hb1:Below (wr.alloc (.cells (enC m) 143)).heap.size (wr.alloc (.cells (enC m) 143)) w1)=>NM.out.key w1 ((AT.out.le.le hax).le hb1) m.k (HI.out m hmem).ok.key)
   have C2:=Avp (fun w1 (hb1:Below (wr.alloc (.cells (enC m) 143)).heap.size (wr.alloc (.cells (enC m) 143)) w1)=>Eo (((HI.out m hmem).mono ((AT.out.le.le hax).le hb1) fun _ x=>x).at_.at_) (NM.out.mono ((AT.out.le.le hax).le hb1)) (HI.out m hmem).ok.small)
   clear hmem hl2 hax y0 y1 y2 y3
   cases hv:Dr m.k with
   | false=>
    have OK:=Avp (show okE l k=false by rw[Qm EX.out hv rfl];rfl)
    rw[hv] at C1
    clear hv hA hm
    go_wp2_with fail
    rw[<-hJ]
    clear hJ c0 c1 c2 c3 hix
    refine Am mixed (by kernel_rfl) ?_
    refine Ab.step (Ob.fieldV Aa.free Has.oldIs (fun w1=>Ej)) ?_
    refine Ab.step (Ob.loadV Aa.free (Has.new 0 0) (fun w1 hb1=>Y.out.key hb1)) ?_
    refine Ab.step (Ob.call1V Aa.free Hf (Has.new 1 0) (fun w1 hb1=>C1.out w1 hb1)) ?_
    refine Ab.step (Ob.not Aa.free (Has.new 2 0)) ?_
    refine Ab.step (Ob.move Aa.free (Has.new 3 0)) ?_
    refine Ab.step (Ob.off 4 0) ?_
    refine Ab.step (Ob.off 4 1) ?_
    refine Ab.step (Ob.off 4 2) ?_
    refine Ab.step (Ob.off 4 3) ?_
    refine Ab.step (Ob.pickT Aa.free (Has.new 4 4) (Has.cst _)) ?_
    refine Ab.step (Ob.move Aa.free (Has.new 9 0)) ?_
    refine Ab.step (Ob.off 10 0) ?_
    refine Ab.step (Ob.off 10 1) ?_
    refine Ab.step (Ob.off 10 2) ?_
    refine Ab.step (Ob.offU 13 0) ?_
    refine Ab.step (Ob.offU 13 1) ?_
    refine Ab.step (Ob.offU 13 2) ?_
    refine Ab.step (Ob.offU 13 3) ?_
    refine Ab.step (Ob.offU 13 4) ?_
    refine Ab.step (Ob.offU 13 5) ?_
    refine Ab.step (Ob.offU 13 6) ?_
    refine Ab.step (Ob.offU 13 7) ?_
    refine Ab.step (Ob.offU 13 8) ?_
    refine Ab.step (Ob.off 10 12) ?_
    refine Ab.step (Ob.pickT Aa.free (Has.new 10 13) (Has.cst _)) ?_
    simp only[Ab,Ao,List.map,Bq,List.reverse_cons,List.reverse_nil,List.nil_append,List.cons_append]
    intro wE hE
    iterate 25 (rintro _ rfl)
    simp only[Act.put,List.setIfInBounds_toArray,List.set_cons_zero,List.set_cons_succ]
    have HE:=Avp ((AT.out.le.le HX.out).le hE)
    clear hE
    go_wp2
    go_ret
    exact Ay (by rw[Vx LT.out OK.out]) HE.out
   | true=>
    cases hc:Bo m.c with
    | false=>
     have OK:=Avp (show okE l k=false by rw[Qm EX.out hv hc];rfl)
     rw[hv] at C1
     rw[hc] at C2
     clear hv hA hc hm
     go_wp2_with fail
     rw[<-hJ]
     clear hJ c0 c1 c2 c3 hix
     refine Am mixed (by kernel_rfl) ?_
     refine Ab.step (Ob.fieldV Aa.free Has.oldIs (fun w1=>Ej)) ?_
     refine Ab.step (Ob.loadV Aa.free (Has.new 0 0) (fun w1 hb1=>Y.out.key hb1)) ?_
     refine Ab.step (Ob.call1V Aa.free Hf (Has.new 1 0) (fun w1 hb1=>C1.out w1 hb1)) ?_
     refine Ab.step (Ob.not Aa.free (Has.new 2 0)) ?_
     refine Ab.step (Ob.move Aa.free (Has.new 3 0)) ?_
     refine Ab.step (Ob.fieldV (Aa.on 4 0) Has.oldIs (fun w1=>Kz)) ?_
     refine Ab.step (Ob.loadV (Aa.on 4 1) (Has.new 5 0) (fun w1 hb1=>Y.out.cart hb1)) ?_
     refine Ab.step (Ob.call1V (Aa.on 4 2) I4 (Has.new 6 0) (fun w1 hb1=>C2.out w1 hb1)) ?_
     refine Ab.step (Ob.not (Aa.on 4 3) (Has.new 7 0)) ?_
     refine Ab.step (Ob.pickF Aa.free (Has.new 4 4) (Has.new 8 0)) ?_
     refine Ab.step (Ob.move Aa.free (Has.new 9 0)) ?_
     refine Ab.step (Ob.off 10 0) ?_
     refine Ab.step (Ob.off 10 1) ?_
     refine Ab.step (Ob.off 10 2) ?_
     refine Ab.step (Ob.offU 13 0) ?_
     refine Ab.step (Ob.offU 13 1) ?_
     refine Ab.step (Ob.offU 13 2) ?_
     refine Ab.step (Ob.offU 13 3) ?_
     refine Ab.step (Ob.offU 13 4) ?_
     refine Ab.step (Ob.offU 13 5) ?_
     refine Ab.step (Ob.offU 13 6) ?_
     refine Ab.step (Ob.offU 13 7) ?_
     refine Ab.step (Ob.offU 13 8) ?_
     refine Ab.step (Ob.off 10 12) ?_
     refine Ab.step (Ob.pickT Aa.free (Has.new 10 13) (Has.cst _)) ?_
     simp only[Ab,Ao,List.map,Bq,List.reverse_cons,List.reverse_nil,List.nil_append,List.cons_append]
     intro wE hE
     iterate 25 (rintro _ rfl)
     simp only[Act.put,List.setIfInBounds_toArray,List.set_cons_zero,List.set_cons_succ]
     have HE:=Avp ((AT.out.le.le HX.out).le hE)
     clear hE
     go_wp2
     go_ret
     exact Ay (by rw[Vx LT.out OK.out]) HE.out
    | true=>
     rw[hv] at C1
     rw[hc] at C2
     have OKS:=Avp (Qm EX.out hv hc)
     clear hv hc
     go_wp2_with fail
     rw[<-hJ]
     clear hJ c0 c1 c2 c3 hix
     cases k with
     | zero=>
      clear hA hm
      refine Am mixed (by kernel_rfl) ?_
      refine Ab.step (Ob.fieldV Aa.free Has.oldIs (fun w1=>Ej)) ?_
      refine Ab.step (Ob.loadV Aa.free (Has.new 0 0) (fun w1 hb1=>Y.out.key hb1)) ?_
      refine Ab.step (Ob.call1V Aa.free Hf (Has.new 1 0) (fun w1 hb1=>C1.out w1 hb1)) ?_
      refine Ab.step (Ob.not Aa.free (Has.new 2 0)) ?_
      refine Ab.step (Ob.move Aa.free (Has.new 3 0)) ?_
      refine Ab.step (Ob.fieldV (Aa.on 4 0) Has.oldIs (fun w1=>Kz)) ?_
      refine Ab.step (Ob.loadV (Aa.on 4 1) (Has.new 5 0) (fun w1 hb1=>Y.out.cart hb1)) ?_
      refine Ab.step (Ob.call1V (Aa.on 4 2) I4 (Has.new 6 0) (fun w1 hb1=>C2.out w1 hb1)) ?_
      refine Ab.step (Ob.not (Aa.on 4 3) (Has.new 7 0)) ?_
      refine Ab.step (Ob.pickF Aa.free (Has.new 4 4) (Has.new 8 0)) ?_
      refine Ab.step (Ob.move Aa.free (Has.new 9 0)) ?_
      refine Ab.step (Ob.move (Aa.on 10 0) Has.oldIs) ?_
      refine Ab.step (Ob.binV (Aa.on 10 1) (Has.new 11 0) (Has.cst _) (fun w1=>Ev false rfl)) ?_
      refine Ab.step (Ob.move (Aa.on 10 2) (Has.new 12 0)) ?_
      refine Ab.step (Ob.off 13 0) ?_
      refine Ab.step (Ob.off 13 1) ?_
      refine Ab.step (Ob.off 13 2) ?_
      refine Ab.step (Ob.off 13 3) ?_
      refine Ab.step (Ob.off 13 4) ?_
      refine Ab.step (Ob.off 13 5) ?_
      refine Ab.step (Ob.off 13 6) ?_
      refine Ab.step (Ob.off 13 7) ?_
      refine Ab.step (Ob.off 13 8) ?_
      refine Ab.step (Ob.pickF (Aa.on 10 12) (Has.new 13 9) (Has.cst _)) ?_
      refine Ab.step (Ob.pickF Aa.free (Has.new 10 13) (Has.new 23 0)) ?_
      simp only[Ab,Ao,List.map,Bq,List.reverse_cons,List.reverse_nil,List.nil_append,List.cons_append]
      intro wE hE
      iterate 25 (rintro _ rfl)
      simp only[Act.put,List.setIfInBounds_toArray,List.set_cons_zero,List.set_cons_succ]
      have HE:=Avp ((AT.out.le.le HX.out).le hE)
      clear hE
      go_wp2
      go_roundw
      case rel=>exact⟨1,rfl,by have:=LT.out;have:=HL.out;omega,HE.out,fun j hj=>by
       obtain rfl:j=0:=by omega
       rw[OKS.out];rfl⟩
      case measure=>simp[intOf];have:=LT.out;have:=HL.out;omega
     | succ k=>
      obtain⟨b2,o2,m2,hA2,_,hm2,_,d0,_⟩:=(H.out.mono AT.out.le).entry (k:=k) (by omega)
      rw[hA] at hA2;cases hA2
      have hix2:=fun w=>(show(Instr.indexAt 118 (.slice A n c) (.int .i64 (k:Int))).run Tryz.prog w = .ok (.pointer (some ⟨b,o+k*4,none⟩)) w by rw[hA];simp[go_sem];omega)
      have IX2:=Avp hix2
      have D0:=Avp (show(wr.alloc (.cells (enC m) 143)).cell? ⟨b,o+k*4,none⟩=some (Ac m2.k) from Ad HX.out d0)
      have hp:l[k]?=some m2.s:=by rw[<-HE0.out,List.getElem?_map,hm2];rfl
      have OKP:=Avp (show okE l (k+1)=Op.bytesLess m2.k m.k by rw[OKS.out];simp only[Bool.true_and,Ah5,hp];rfl)
      have HK:=Avp (show k+1<=9223372036854775807 by omega)
      clear hm2 d0 hix2 hp hA hm
      cases hr:Op.bytesLess m2.k m.k with
      | false=>
       have OK:=Avp (show okE l (k+1)=false by rw[OKP.out,hr])
       have HR:=Avp hr
       clear hr
       refine Am mixed (by kernel_rfl) ?_
       refine Ab.step (Ob.fieldV Aa.free Has.oldIs (fun w1=>Ej)) ?_
       refine Ab.step (Ob.loadV Aa.free (Has.new 0 0) (fun w1 hb1=>Y.out.key hb1)) ?_
       refine Ab.step (Ob.call1V Aa.free Hf (Has.new 1 0) (fun w1 hb1=>C1.out w1 hb1)) ?_
       refine Ab.step (Ob.not Aa.free (Has.new 2 0)) ?_
       refine Ab.step (Ob.move Aa.free (Has.new 3 0)) ?_
       refine Ab.step (Ob.fieldV (Aa.on 4 0) Has.oldIs (fun w1=>Kz)) ?_
       refine Ab.step (Ob.loadV (Aa.on 4 1) (Has.new 5 0) (fun w1 hb1=>Y.out.cart hb1)) ?_
       refine Ab.step (Ob.call1V (Aa.on 4 2) I4 (Has.new 6 0) (fun w1 hb1=>C2.out w1 hb1)) ?_
       refine Ab.step (Ob.not (Aa.on 4 3) (Has.new 7 0)) ?_
       refine Ab.step (Ob.pickF Aa.free (Has.new 4 4) (Has.new 8 0)) ?_
       refine Ab.step (Ob.move Aa.free (Has.new 9 0)) ?_
       refine Ab.step (Ob.move (Aa.on 10 0) Has.oldIs) ?_
       refine Ab.step (Ob.binV (Aa.on 10 1) (Has.new 11 0) (Has.cst _) (fun w1=>Ev true (by simp))) ?_
       refine Ab.step (Ob.move (Aa.on 10 2) (Has.new 12 0)) ?_
       refine Ab.step (Ob.move (Aa.on 13 0) Has.oldIs) ?_
       refine Ab.step (Ob.move (Aa.on 13 1) Has.oldIs) ?_
       refine Ab.step (Ob.binV (Aa.on 13 2) (Has.new 15 0) (Has.cst _) (fun w1=>D9 HK.out)) ?_
       refine Ab.step (Ob.indexV (Aa.on 13 3) (Has.new 14 2) (Has.new 16 0) (fun w1=>IX2.out w1)) ?_
       refine Ab.step (Ob.fieldV (Aa.on 13 4) (Has.new 17 0) (fun w1=>Ej)) ?_
       refine Ab.step (Ob.loadV (Aa.on 13 5) (Has.new 18 0) (fun w1 hb1=>Fd hb1 D0.out)) ?_
       refine Ab.step (Ob.fieldV (Aa.on 13 6) Has.oldIs (fun w1=>Ej)) ?_
       refine Ab.step (Ob.loadV (Aa.on 13 7) (Has.new 20 0) (fun w1 hb1=>Y.out.key hb1)) ?_
       refine Ab.step (Ob.binV (Aa.on 13 8) (Has.new 19 2) (Has.new 21 0) (fun w1=>Pt false HR.out)) ?_
       refine Ab.step (Ob.pickT (Aa.on 10 12) (Has.new 13 9) (Has.new 22 0)) ?_
       refine Ab.step (Ob.pickF Aa.free (Has.new 10 13) (Has.new 23 0)) ?_
       simp only[Ab,Ao,List.map,Bq,List.reverse_cons,List.reverse_nil,List.nil_append,List.cons_append]
       intro wE hE
       iterate 25 (rintro _ rfl)
       simp only[Act.put,List.setIfInBounds_toArray,List.set_cons_zero,List.set_cons_succ]
       have HE:=Avp ((AT.out.le.le HX.out).le hE)
       clear hE
       go_wp2
       go_ret
       exact Ay (by rw[Vx LT.out OK.out]) HE.out
      | true=>
       have OK:=Avp (show okE l (k+1)=true by rw[OKP.out,hr])
       have HR:=Avp hr
       clear hr
       refine Am mixed (by kernel_rfl) ?_
       refine Ab.step (Ob.fieldV Aa.free Has.oldIs (fun w1=>Ej)) ?_
       refine Ab.step (Ob.loadV Aa.free (Has.new 0 0) (fun w1 hb1=>Y.out.key hb1)) ?_
       refine Ab.step (Ob.call1V Aa.free Hf (Has.new 1 0) (fun w1 hb1=>C1.out w1 hb1)) ?_
       refine Ab.step (Ob.not Aa.free (Has.new 2 0)) ?_
       refine Ab.step (Ob.move Aa.free (Has.new 3 0)) ?_
       refine Ab.step (Ob.fieldV (Aa.on 4 0) Has.oldIs (fun w1=>Kz)) ?_
       refine Ab.step (Ob.loadV (Aa.on 4 1) (Has.new 5 0) (fun w1 hb1=>Y.out.cart hb1)) ?_
       refine Ab.step (Ob.call1V (Aa.on 4 2) I4 (Has.new 6 0) (fun w1 hb1=>C2.out w1 hb1)) ?_
       refine Ab.step (Ob.not (Aa.on 4 3) (Has.new 7 0)) ?_
       refine Ab.step (Ob.pickF Aa.free (Has.new 4 4) (Has.new 8 0)) ?_
       refine Ab.step (Ob.move Aa.free (Has.new 9 0)) ?_
       refine Ab.step (Ob.move (Aa.on 10 0) Has.oldIs) ?_
       refine Ab.step (Ob.binV (Aa.on 10 1) (Has.new 11 0) (Has.cst _) (fun w1=>Ev true (by simp))) ?_
       refine Ab.step (Ob.move (Aa.on 10 2) (Has.new 12 0)) ?_
       refine Ab.step (Ob.move (Aa.on 13 0) Has.oldIs) ?_
       refine Ab.step (Ob.move (Aa.on 13 1) Has.oldIs) ?_
       refine Ab.step (Ob.binV (Aa.on 13 2) (Has.new 15 0) (Has.cst _) (fun w1=>D9 HK.out)) ?_
       refine Ab.step (Ob.indexV (Aa.on 13 3) (Has.new 14 2) (Has.new 16 0) (fun w1=>IX2.out w1)) ?_
       refine Ab.step (Ob.fieldV (Aa.on 13 4) (Has.new 17 0) (fun w1=>Ej)) ?_
       refine Ab.step (Ob.loadV (Aa.on 13 5) (Has.new 18 0) (fun w1 hb1=>Fd hb1 D0.out)) ?_
       refine Ab.step (Ob.fieldV (Aa.on 13 6) Has.oldIs (fun w1=>Ej)) ?_
       refine Ab.step (Ob.loadV (Aa.on 13 7) (Has.new 20 0) (fun w1 hb1=>Y.out.key hb1)) ?_
       refine Ab.step (Ob.binV (Aa.on 13 8) (Has.new 19 2) (Has.new 21 0) (fun w1=>Pt true HR.out)) ?_
       refine Ab.step (Ob.pickT (Aa.on 10 12) (Has.new 13 9) (Has.new 22 0)) ?_
       refine Ab.step (Ob.pickF Aa.free (Has.new 10 13) (Has.new 23 0)) ?_
       simp only[Ab,Ao,List.map,Bq,List.reverse_cons,List.reverse_nil,List.nil_append,List.cons_append]
       intro wE hE
       iterate 25 (rintro _ rfl)
       simp only[Act.put,List.setIfInBounds_toArray,List.set_cons_zero,List.set_cons_succ]
       have HE:=Avp ((AT.out.le.le HX.out).le hE)
       clear hE
       go_wp2
       go_roundw
       case rel=>exact⟨k+2,by simp;omega,by have:=LT.out;have:=HL.out;omega,HE.out,fun j hj=>by
        rcases Nat.lt_or_ge j (k+1) with hj2 | hj2
        ·exact AT.out.ok j hj2
        ·obtain rfl:j=k+1:=by omega
         exact OK.out⟩
       case measure=>simp[intOf];have:=LT.out;have:=HL.out;omega
  ·obtain rfl:k=n:=by have:=LK.out;omega
   have EV:=Avp (show Cf l=true from Xb.2 (by rw[<-HL.out];exact AT.out.ok))
   go_wp2
   go_ret
   exact Ay (by rw[EV.out]) AT.out.le
theorem T1:Enters Tryz.prog 382:=enters_of Tryz.func382 (by kernel_rfl) rfl
theorem Aoc {B R k:Nat} {l:List UInt8} {w:World} (h:De B R l k w) (hB:B<=w.heap.size) (hl:l.length<=200000) (hn:Iv w) (hg:2≠R):Calls Tryz.prog 309 #[.pointer (some ⟨R,0,none⟩)] w (RdQ B R l k (Hj (l.drop k)) (fun x w' v=>Ac9 w.heap.size x w' v) w):=by
 have S0:=Avp (DSt.start h hB cartZ 141)
 have HL:=Avp hl
 have NM:=Avp hn;have HG:=Avp hg
 obtain⟨J,hJ⟩:∃ J,J=w.heap.size:=⟨_,rfl⟩
 rw[<-hJ] at S0
 have EJ:=Avp hJ
 have SZ:=Avp (show(w.alloc (.cells cartZ 141)).heap.size=J+1 by rw[hJ];simp)
 have C1:=Avp (Aqs S0.out.rd S0.out.base (by omega))
 clear h hB hJ hl hn hg
 unfold RdQ
 unfold RdQ at C1
 obtain⟨T,hT⟩:∃ T,T=Hj (l.drop k):=⟨_,rfl⟩
 rw[<-hT]
 unfold Hj at hT
 cases h1:Ub (l.drop k) with
 | none=>
  rw[h1] at C1 hT
  simp only at C1 hT
  subst hT
  go_enter Tryz.func309,Tryz.ntmps309
  go_wp2_with fail
  refine C1.out.mono ?_
  rintro _ w1 ⟨hw1,rfl⟩
  exact⟨rfl,S0.out.wr.trans hw1 (.inl rfl),rfl⟩
 | some q=>
  obtain⟨cx,s⟩:=q
  rw[h1] at C1 hT
  simp only at C1 hT
  rw[Cp] at hT
  have CX:=Avp (Qj h1)
  clear h1
  cases h2:Fy 18446744073709551615 (l.drop (k+s)) with
  | none=>
   rw[h2] at hT
   simp only at hT
   subst hT
   go_enter Tryz.func309,Tryz.ntmps309
   go_wp2_with fail
   rw[<-EJ.out]
   refine C1.out.mono ?_
   rintro _ w1 ⟨hw1,⟨v1,rfl,hv1⟩,hr1,hle1⟩
   obtain⟨A,n,ca,A',m,cb,rfl,en,em,d1,d2,i1,i2⟩:=hv1.parts
   have S1:=Avp ((S0.out.step hw1 hr1).mono (w':=w1.alloc (.cells #[.slice A n ca,.slice A' m cb,.slice none 0 0] 141)) (by go_grown))
   have C2:=Avp (Lg (most:=18446744073709551615) S1.out.rd S1.out.base)
   unfold RdQ at C2
   rw[h2] at C2
   simp only at C2
   clear hw1 hr1 hle1 C1 hv1 d1 d2 i1 i2 en em
   go_wp2_with fail
   refine C2.out.mono ?_
   rintro _ w3 ⟨hw3,rfl⟩
   exact⟨rfl,S1.out.wr.trans hw3 (.inl rfl),rfl⟩
  | some q=>
   obtain⟨n,v⟩:=q
   rw[h2] at hT
   simp only at hT
   rw[Cp,<-Nat.add_assoc] at hT
   have HN:=Avp (Cl h2)
   have HT:=Avp hT
   clear hT
   go_enter Tryz.func309,Tryz.ntmps309
   go_wp2_with fail
   rw[<-EJ.out]
   refine C1.out.mono ?_
   rintro _ w1 ⟨hw1,⟨v1,rfl,hv1⟩,hr1,hle1⟩
   obtain⟨A,na,ca,A',mb,cb,rfl,en,em,d1,d2,i1,i2⟩:=hv1.parts
   obtain⟨X,hX⟩:∃ X,X=w1.heap.size:=⟨_,rfl⟩
   have EX:=Avp hX
   obtain⟨p,hp⟩:∃ p:CPl,p=⟨A,na,ca,A',mb,cb,none,0,0⟩:=⟨_,rfl⟩
   have X0:=Avp (show K9 B R J X w l (k+s) p cx (.slice none 0 0) [] (w1.alloc (.cells #[.slice A na ca,.slice A' mb cb,.slice none 0 0] 141)) from by
    have hg:Below w1.heap.size w1 (w1.alloc (.cells #[.slice A na ca,.slice A' mb cb,.slice none 0 0] 141)):=by go_grown
    have sz:=SZ.out
    rw[sz] at i1 i2
    rw[hp]
    refine⟨(S0.out.step hw1 hr1).mono hg,by rw[hX];exact Bx.new w1 #[.slice A na ca,.slice A' mb cb,.slice none 0 0] 141,Hs.nil_ _ _,⟨d1.mono hg,fun a e=>⟨by have:=(i1 a e).1;omega,by rw[hX];exact(i1 a e).2⟩⟩,⟨d2.mono hg,fun a e=>⟨by have:=(i2 a e).1;omega,by rw[hX];exact(i2 a e).2⟩⟩,by rw[hX];exact(S0.out.step hw1 hr1).bx.lt⟩)
   have C2:=Avp (Lg (most:=18446744073709551615) X0.out.d.rd X0.out.d.base)
   unfold RdQ at C2
   rw[h2] at C2
   simp only at C2
   clear h2 hw1 hr1 hle1 C1 hv1 d1 d2 i1 i2 en em
   go_wp2_with fail
   rw[<-hX]
   clear hX
   refine C2.out.mono ?_
   rintro _ w3 ⟨hw3,⟨_,rfl,rfl⟩,hr3,hle3⟩
   have X1:=Avp (X0.out.step hw3 hr3)
   have HLE:=Avp hle3
   clear hw3 hr3 hle3 C2 X0 hp
   obtain⟨K,hK⟩:∃ K,K=k+s+v:=⟨_,rfl⟩
   have EK:=Avp hK
   rw[<-hK] at X1 HLE HT
   clear hK
   obtain⟨MT,hMT⟩:∃ MT,MT=Du n (l.drop K):=⟨_,rfl⟩
   rw[<-hMT] at HT
   have EM:=Avp hMT
   clear hMT
   go_wp2
   go_loopw [4] (fun s wr=>Ar5 B R J X w l p cx K MT s wr) (fun s _=>(intOf s).toNat)
   case atStart=>exact⟨n,[],K,_,rfl,by have:=HN.out.2.2.2;omega,X1.out,Nat.le_refl _,by simp[Cn],by rw[EM.out,Nat.sub_self];cases Du n (l.drop K) <;> simp[Dn]⟩
   case round=>
    obtain⟨m,acc,j,u,rfl,hm,hst,hkj,hac,hv⟩:=hrel
    have ST:=Avp hst;have HV:=Avp hv;have HK:=Avp hkj;have HA:=Avp hac
    clear hst hv hkj hac
    obtain⟨Au,cu,hu,_⟩:=ST.out.o.its
    subst hu
    cases m with
    | zero=>
     have e:=HV.out
     unfold Du Dn at e
     simp only[List.append_nil,Nat.add_zero] at e
     have et:=HT.out
     rw[e] at et
     simp only at et
     have hjl:=ST.out.d.rd.le
     have hsm:Bd ⟨cx,acc⟩:=by
      have h1:=CX.out;have h2:=HA.out;have h3:=HL.out;have h4:=EK.out
      rw[List.length_drop] at h1
      unfold Bd Ch
      simp only
      omega
     have x0:=ST.out.x.cell 0 rfl;have x1:=ST.out.x.cell 1 rfl;have x2:=ST.out.x.cell 2 rfl
     have CV:=Avp (Eo ST.out.cart (NM.out.wrote ST.out.d.wr HG.out).ok hsm)
     cases hvk:Bo ⟨cx,acc⟩ with
     | false=>
      rw[hvk] at CV
      rw[hvk,if_neg (by simp)] at et
      clear HV HT EM e hsm hjl hvk
      subst et
      go_wp2_with fail
      refine CV.out.mono ?_
      rintro _ w4 ⟨_,rfl,hb4,rfl⟩
      replace ST:=Avp (ST.out.mono hb4)
      clear hb4 x0 x1 x2 CV
      go_wp2
      exact⟨rfl,ST.out.d.wr,rfl⟩
     | true=>
      rw[hvk] at CV
      rw[hvk,if_pos rfl] at et
      clear HV HT EM e hsm hjl hvk
      subst et
      go_wp2_with fail
      refine CV.out.mono ?_
      rintro _ w4 ⟨_,rfl,hb4,rfl⟩
      replace ST:=Avp (ST.out.mono hb4)
      clear hb4 x0 x1 x2 CV
      have x0:=ST.out.x.cell 0 rfl;have x1:=ST.out.x.cell 1 rfl;have x2:=ST.out.x.cell 2 rfl
      go_wp2_with ((with_reducible refine Ai (J) ?_ ?_);(next=>rfl))
      unfold Az
      refine Af (J:=J) rfl rfl rfl rfl rfl ST.out.d.bx (show(Tryz.prog.info? 141).map (·.size)=some 3 by kernel_rfl) rfl (by simp[Value.oneCell']) ?_
      intro w9 hx9 hu9
      have X9:=Avp hx9;have U9:=Avp hu9
      clear hx9 hu9
      clear x0 x1 x2
      go_wp2
      refine bodyPost_ret (v:=Cd ⟨p.A,p.n,p.ca,p.B,p.m,p.cb,Au,acc.length,cu⟩) ?_ rfl ?_
      ·exact D5 Tryz.results309 rfl X9.out Tryz.underlying141 rfl (show(Tryz.prog.info? 141).map (·.size)=some 3 by kernel_rfl)
      obtain⟨k1,k2⟩:=ST.out.d.end_ U9.out
      have hlt:=ST.out.lt;have hj:=ST.out.d.hJ;have ej:=EJ.out
      have xl:=ST.out.x.lt
      have ct:=(ST.out.cart.if_).wrote U9.out.wrote (fun b hb=>⟨by have:=hb.1.1;omega,by simp⟩)
      refine⟨k1,⟨_,rfl,_,rfl,ct.dom fun b hb=>⟨by have:=hb.1.1;omega,by rw[U9.out.size];exact hb.2⟩⟩,?_,?_⟩
      ·rw[show k+(s+v+(j - K))=j by have:=HK.out;have:=EK.out;omega];exact k2
      ·have:=k2.le;have:=HK.out;have:=EK.out;omega
    | succ m=>
     have hpos:(0:Int)<((m+1:Nat):Int):=by omega
     have x2:=ST.out.x.cell 2 rfl
     have C3:=Avp (fun wd (S:K9 B R J X w l j p cx (.slice Au acc.length cu) acc wd)=>Aqa S.d.rd S.d.base (by have:=HL.out;omega))
     unfold RdQ at C3
     cases h3:Lk (l.drop j) with
     | none=>
      have e:=HV.out
      rw[Abp h3] at e
      have et:=HT.out
      rw[e] at et
      simp only[Dn] at et
      rw[h3] at C3
      simp only at C3
      clear HV HT EM e h3
      subst et
      go_wp2_with fail
      refine wp_region_any mixed ?_
      have SD:=Avp (ST.out.mono (Below.dr wr))
      change wpAny _ _ _ _ _ _ _ (World.drew wr)
      generalize World.drew wr=wd at *
      refine Ap (i:=0) rfl rfl (by kernel_rfl) (fun _ _ _ h=>h) (v:=.pointer (some ⟨X,2,none⟩)) (fun w=>by simp[execOp,Act.eval,go_sem]) ?_
      refine Ap (i:=2) rfl rfl (by kernel_rfl) (fun _ _ _ h=>h) (v:=.pointer (some ⟨R,0,none⟩)) (fun w=>by simp[execOp,Act.eval,Act.put]) ?_
      simp only[Act.put,List.setIfInBounds_toArray,List.set_cons_zero,List.set_cons_succ]
      refine Us (i:=1) (j:=3) [3,4,5,6,7] (by kernel_rfl) (by kernel_rfl) rfl rfl rfl (.cons rfl (.cons rfl (.cons rfl (.cons rfl (.cons rfl .nil))))) ?_ ?_
      ·skip
       have x2d:=SD.out.x.cell 2 rfl
       clear x2
       go_wp2_with fail
       refine(C3.out wd SD.out).mono ?_
       rintro _ w2 ⟨hw2,rfl⟩
       exact⟨rfl,SD.out.d.wr.trans hw2 (.inl rfl),rfl⟩
      ·refine Gd T1 (by rw[List.map_toArray];rfl) (C3.out wd SD.out) (fun v w' h=>by simp at h) (fun ch w' h=>?_) (fun w' h=>by simp at h)
       obtain⟨hw2,e2⟩:=h
       cases e2
       exact⟨rfl,SD.out.d.wr.trans hw2 (.inl rfl),rfl⟩
     | some q=>
      obtain⟨y,v1⟩:=q
      have HY:=Avp (Ql h3)
      have E:=Avp (HV.out.trans (Vy h3))
      rw[h3] at C3
      simp only at C3
      clear h3 HV
      go_wp2_with fail
      refine wp_region_any mixed ?_
      have SD:=Avp (ST.out.mono (Below.dr wr))
      change wpAny _ _ _ _ _ _ _ (World.drew wr)
      generalize World.drew wr=wd at *
      refine Ap (i:=0) rfl rfl (by kernel_rfl) (fun _ _ _ h=>h) (v:=.pointer (some ⟨X,2,none⟩)) (fun w=>by simp[execOp,Act.eval,go_sem]) ?_
      refine Ap (i:=2) rfl rfl (by kernel_rfl) (fun _ _ _ h=>h) (v:=.pointer (some ⟨R,0,none⟩)) (fun w=>by simp[execOp,Act.eval,Act.put]) ?_
      simp only[Act.put,List.setIfInBounds_toArray,List.set_cons_zero,List.set_cons_succ]
      refine Us (i:=1) (j:=3) [3,4,5,6,7] (by kernel_rfl) (by kernel_rfl) rfl rfl rfl (.cons rfl (.cons rfl (.cons rfl (.cons rfl (.cons rfl .nil))))) ?_ ?_
      ·have x2d:=SD.out.x.cell 2 rfl
       clear x2
       simp only[List.getElem_toArray,List.getElem_cons_succ,List.getElem_cons_zero]
       go_wp2_with fail
       refine(C3.out wd SD.out).mono ?_
       rintro _ w2 ⟨hw2,⟨v2,rfl,hv2⟩,hr2,hle2⟩
       have S2:=Avp (SD.out.step hw2 hr2)
       obtain⟨ei,hes,rfl,hoff⟩:=hv2.off (by have:=HY.out.2.2.1;omega) HY.out.2.2.2 (B:=X+1) (r:=(Value.slice Au acc.length cu).ownBlock) SD.out.x.lt (fun q hq=>(SD.out.o.own q hq).2)
       have b3:Below w2.heap.size w2 (w2.alloc (.cells (itC ei) 246)):=by go_grown
       have S3:=Avp (S2.out.mono b3)
       have OF:=Avp (hoff.mono b3)
       have SL:=Avp (Ac7 w2 ei)
       have AL:=Avp (show acc.length+1<=1000000 by have:=HA.out;have:=ST.out.d.rd.le;have:=HL.out;omega)
       have HES:=Avp hes
       clear hw2 hr2 hle2 hv2 b3 hoff hes
       have x2e:=S2.out.x.cell 2 rfl
       have x2f:=S3.out.x.cell 2 rfl
       go_wp2_with (first
        | (at_builtin;refine Ib (u:=.slice Au acc.length cu) (l:=acc) (e:=ei) (B:=X+1) rfl rfl Tryz.underlying139 rfl rfl S3.out.o SL.out OF.out AL.out S3.out.x.lt ?_;intro u10 w10 o10 g10;obtain⟨A10,c10,e10,_⟩:=o10.its;rw[List.length_append,List.length_singleton] at e10;subst e10;have O10:=Avp o10;have HG:=Avp ((Below.refl (X+1) _).grown g10 S3.out.x.lt (fun q hq=>(S3.out.o.own q hq).1));clear o10 g10;have X10:=Avp (S3.out.put HG.out O10.out);have z1:=(S3.out.x.low HG.out (Nat.lt_succ_self X)).cell 2 rfl;have zf:=(S3.out.x.low HG.out (Nat.lt_succ_self X)).fr 2 (by simp);clear x2e x2f)
        | fail)
       have hk:=HK.out;have ha:=HA.out;have hy:=HY.out
       have x10:=X10.out
       rw[HES.out] at x10
       refine⟨⟨m,acc++[y],j+v1,_,rfl,by omega,x10,by omega,by rw[Oa];simp;omega,?_⟩,by simp[intOf]⟩
       rw[E.out,Cp]
       congr 1
       omega
      ·refine Gd T1 (by rw[List.map_toArray];rfl) (C3.out wd SD.out) (fun v w2 h=>?_) (fun ch w' h=>by simp at h) (fun w' h=>by simp at h)
       obtain⟨hw2,⟨v2,e2,hv2⟩,hr2,hle2⟩:=h
       cases e2
       clear x2
       have S2:=Avp (SD.out.step hw2 hr2)
       obtain⟨ei,hes,rfl,hoff⟩:=hv2.off (by have:=HY.out.2.2.1;omega) HY.out.2.2.2 (B:=X+1) (r:=(Value.slice Au acc.length cu).ownBlock) SD.out.x.lt (fun q hq=>(SD.out.o.own q hq).2)
       have b3:Below w2.heap.size w2 (w2.alloc (.cells (itC ei) 246)):=by go_grown
       have S3:=Avp (S2.out.mono b3)
       have OF:=Avp (hoff.mono b3)
       have SL:=Avp (Ac7 w2 ei)
       have AL:=Avp (show acc.length+1<=1000000 by have:=HA.out;have:=ST.out.d.rd.le;have:=HL.out;omega)
       have HES:=Avp hes
       clear hw2 hr2 hle2 hv2 b3 hoff hes
       have x2e:=S2.out.x.cell 2 rfl
       have x2f:=S3.out.x.cell 2 rfl
       simp only[Act.put,List.setIfInBounds_toArray,List.set_cons_zero,List.set_cons_succ]
       refine Af7 (i:=1) (j:=4) [4,5,6,7] [1,5,6,7] (by kernel_rfl) (by kernel_rfl) (by kernel_rfl) rfl rfl rfl (.cons rfl (.cons rfl (.cons rfl (.cons rfl .nil)))) (.cons rfl (.cons rfl (.cons rfl (.cons rfl .nil)))) ?_ ?_
       ·skip
        simp only[List.getElem_toArray,List.getElem_cons_succ,List.getElem_cons_zero]
        go_wp2_with (first
         | (at_builtin;refine Ib (u:=.slice Au acc.length cu) (l:=acc) (e:=ei) (B:=X+1) rfl rfl Tryz.underlying139 rfl rfl S3.out.o SL.out OF.out AL.out S3.out.x.lt ?_;intro u10 w10 o10 g10;obtain⟨A10,c10,e10,_⟩:=o10.its;rw[List.length_append,List.length_singleton] at e10;subst e10;have O10:=Avp o10;have HG:=Avp ((Below.refl (X+1) _).grown g10 S3.out.x.lt (fun q hq=>(S3.out.o.own q hq).1));clear o10 g10;have X10:=Avp (S3.out.put HG.out O10.out);have z1:=(S3.out.x.low HG.out (Nat.lt_succ_self X)).cell 2 rfl;have zf:=(S3.out.x.low HG.out (Nat.lt_succ_self X)).fr 2 (by simp);clear x2e x2f)
         | fail)
        have hk:=HK.out;have ha:=HA.out;have hy:=HY.out
        have x10:=X10.out
        rw[HES.out] at x10
        refine⟨⟨m,acc++[y],j+v1,_,rfl,by omega,x10,by omega,by rw[Oa];simp;omega,?_⟩,by simp[intOf]⟩
        rw[E.out,Cp]
        congr 1
        omega
       ·skip
        simp only[List.getElem_toArray,List.getElem_cons_succ,List.getElem_cons_zero]
        go_wp2_with (first
         | (at_builtin;refine Ib (u:=.slice Au acc.length cu) (l:=acc) (e:=ei) (B:=X+1) rfl rfl Tryz.underlying139 rfl rfl S3.out.o SL.out OF.out AL.out S3.out.x.lt ?_;intro u10 w10 o10 g10;obtain⟨A10,c10,e10,_⟩:=o10.its;rw[List.length_append,List.length_singleton] at e10;subst e10;have O10:=Avp o10;have HG:=Avp ((Below.refl (X+1) _).grown g10 S3.out.x.lt (fun q hq=>(S3.out.o.own q hq).1));clear o10 g10;have X10:=Avp (S3.out.put HG.out O10.out);have z1:=(S3.out.x.low HG.out (Nat.lt_succ_self X)).cell 2 rfl;have zf:=(S3.out.x.low HG.out (Nat.lt_succ_self X)).fr 2 (by simp);clear x2e x2f)
         | fail)
        have hk:=HK.out;have ha:=HA.out;have hy:=HY.out
        have x10:=X10.out
        rw[HES.out] at x10
        refine⟨⟨m,acc++[y],j+v1,_,rfl,by omega,x10,by omega,by rw[Oa];simp;omega,?_⟩,by simp[intOf]⟩
        rw[E.out,Cp]
        congr 1
        omega
theorem Vg (w:World):(Instr.typeAssert Wg 20 446 true).run Tryz.prog w = .ok (.tuple #[.agg #[],.bool true]) w:=by
 simp[Instr.typeAssert,go_sem]
theorem Nv (N:Nat) (x:Int) (w:World) (hc:w.cell? ⟨N,0,none⟩=some (.int .i64 x)) (hz:w.frozen? ⟨N,0,none⟩=false) :
  CallsD Tryz.prog 308 #[.pointer (some ⟨N,0,none⟩)] (.panicking [{ v:=Wg,recovered:=false }]) w fun e u' w'=>
   e = .returned (.tuple #[])∧u' = .panicking [{ v:=Wg,recovered:=true }]∧w'=(w.setCell ⟨N,0,none⟩ (.int .i64 12)).alloc (.cells #[] 446):=by
 refine callsD_of_wpS Tryz.func308 rfl fun c₀ cs hu=>?_
 apply wpS_seq
 apply wpS_region
 simp[wpOpsS,go_sem,recoverD,hu,Tryz.ntmps308,Exit.thenS]
 refine wpS_of_wp ?_
 have hta:=Vg
 have hN:N<w.heap.size:=World.block_lt_of_cell? w _ hc
 go_wp2
 cases c₀
 simp_all [bodyPostS,results,Tryz.results308]
theorem Wl (p:Addr) (w:World) :
  CallsD Tryz.prog 308 #[.pointer (some p)] .returning w fun e u' w'=>e = .returned (.tuple #[])∧u' = .returning∧w'=w:=by
 refine callsD_of_wpS Tryz.func308 rfl fun c₀ cs hu=>?_
 apply wpS_seq
 apply wpS_region
 simp[wpOpsS,go_sem,recoverD,hu,Tryz.ntmps308,Exit.thenS]
 refine wpS_of_wp ?_
 go_wp2
 cases c₀
 simp_all [bodyPostS,results,Tryz.results308]
def Aqc (B:Nat) (o:Option (Ar×Nat)) (w:World) (e:Ending) (w':World):Prop:=
 Below B w w'∧match o with
  | some (x,u)=>∃ p:CPl,e = .returned (.tuple #[Cd p,.int .i64 (u:Nat),.int .i64 0])∧Ck (fun b=>B<=b∧b<w'.heap.size) w' p x
  | none=>e = .returned (.tuple #[.agg cartZ,.int .i64 0,.int .i64 12])
theorem Aff:Enters Tryz.prog 226:=enters_of Tryz.func226 (by kernel_rfl) rfl
theorem Alc {A:Option Addr} {n c:Nat} {l:List UInt8} {w:World} (h:Sl encB w A n c l) (hl:l.length<=200000) (hn:Iv w):Calls Tryz.prog 225 #[.slice A n c] w (Aqc w.heap.size (Hj l) w):=by
 have hln:=h.len
 obtain⟨w0,hw0⟩:∃ w0,w0=(w.alloc (.cells cartZ 141)).alloc (.cells #[.int .i64 0] 31):=⟨_,rfl⟩
 have HW0:=Avp hw0
 obtain⟨C,hC⟩:∃ C,C=w.heap.size:=⟨_,rfl⟩
 have EC:=Avp hC
 have hb0:Below w.heap.size w w0:=by rw[hw0];go_grown
 have xc:Bx w0 C cartZ.toList:=by rw[hw0,hC];exact(Bx.new w cartZ 141).mono (by go_grown)
 have xe:Bx w0 (C+1) [.int .i64 0]:=by rw[hw0,hC];have:=Bx.new (w.alloc (.cells cartZ 141)) #[.int .i64 0] 31;rw[World.size_alloc] at this;exact this
 have sz:w0.heap.size=C+2:=by rw[hw0,hC];simp
 have HB0:=Avp hb0;have XC:=Avp xc;have XE:=Avp xe;have SZ:=Avp sz
 have NM:=Avp (hn.mono hb0)
 have HG:=Avp hn.lt
 have HL:=Avp hl
 have F1:=Avp (Apd (h.mono hb0) (by omega))
 unfold Aqc
 clear h hl hn hln hw0 hb0 xc xe sz
 go_enter_defers Tryz.func225,Tryz.ntmps225
 go_wp2_with fail
 rw[<-hC,<-HW0.out]
 clear HW0
 refine F1.out.mono ?_
 rintro _ w1 ⟨R,rfl,hb1,hR,hr1⟩
 have R1:=Avp hr1
 have B1:=Avp (HB0.out.le hb1)
 have XC1:=Avp (XC.out.mono hb1);have XE1:=Avp (XE.out.mono hb1)
 have RC:=Avp (show C+2<=R by have:=SZ.out;omega)
 have F2:=Avp (Aoc hr1 hr1.size HL.out (NM.out.mono hb1) (by have:=HG.out;have:=RC.out;omega))
 unfold RdQ at F2
 rw[List.drop_zero] at F2
 clear hb1 hR hr1 F1 hC
 cases ho:Hj l with
 | none=>
  rw[ho] at F2
  simp only at F2 ⊢
  go_wp2_with fail
  refine F2.out.mono ?_
  rintro _ w2 ⟨hw2,rfl⟩
  have XC2:=Avp (XC1.out.wrote hw2 (by have:=RC.out;omega) (by simp));have XE2:=Avp (XE1.out.wrote hw2 (by have:=RC.out;omega) (by simp))
  have B2:=Avp (show Below C w w2 by
   have h1:=B1.out
   have h2:=h1.size
   rw[<-EC.out] at h1 h2
   exact Ae h1 (hw2.below h2 (by have:=RC.out;omega) (by simp)))
  clear hw2
  refine leaves_cons (f:=308) (args:=#[.pointer (some ⟨C+1,0,none⟩)]) (by simp) (by simp[go_sem]) ?_
  refine(Nv (C+1) 0 w2 (XE2.out.cell 0 rfl) (XE2.out.fr 0 (by simp))).mono ?_
  rintro e u' w3 ⟨rfl,rfl,rfl⟩
  obtain⟨y3,u3⟩:=XE2.out.one (j:=0) (v:=.int .i64 12) (by simp)
  have hb3:Below w2.heap.size (w2.setCell ⟨C+1,0,none⟩ (.int .i64 12)) ((w2.setCell ⟨C+1,0,none⟩ (.int .i64 12)).alloc (.cells #[] 446)):=by go_grown
  have xe3:=y3.mono (by rw[u3.size];exact hb3)
  have xc3:=(u3.bx XC2.out (by omega)).mono (by rw[u3.size];exact hb3)
  have b3:Below w.heap.size w ((w2.setCell ⟨C+1,0,none⟩ (.int .i64 12)).alloc (.cells #[] 446)):=by rw[<-EC.out];exact Ae (Ae B2.out (u3.below (by omega))) (Ak hb3 (Nat.le_of_lt XC2.out.lt))
  generalize (w2.setCell ⟨C+1,0,none⟩ (.int .i64 12)).alloc (.cells #[] 446)=W3 at *
  have c0:=xc3.cell 0 rfl;have c1:=xc3.cell 1 rfl;have c2:=xc3.cell 2 rfl;have e0:=xe3.cell 0 rfl
  have B3:=Avp b3
  clear y3 u3 hb3 xe3 xc3 b3
  simp[Leaves,settle,results,Tryz.results225,go_sem,c0,c1,c2,e0]
  rw[ho]
  exact⟨B3.out,trivial⟩
 | some q=>
  obtain⟨x,u⟩:=q
  rw[ho] at F2
  simp only[Nat.zero_add] at F2 ⊢
  go_wp2_with fail
  refine F2.out.mono ?_
  rintro _ w2 ⟨hw2,⟨v2,rfl,p,rfl,hp⟩,hr2,_⟩
  have XC2:=Avp (XC1.out.wrote hw2 (by have:=RC.out;omega) (by simp));have XE2:=Avp (XE1.out.wrote hw2 (by have:=RC.out;omega) (by simp))
  have B2:=Avp (show Below C w w2 by
   have h1:=B1.out
   have h2:=h1.size
   rw[<-EC.out] at h1 h2
   exact Ae h1 (hw2.below h2 (by have:=RC.out;omega) (by simp)))
  obtain⟨hx,y0,y1,y2⟩:=Nx w2 p
  have HX:=Avp hx
  have Y0:=Avp y0;have Y1:=Avp y1;have Y2:=Avp y2
  have R2:=Avp (hr2.keep (Ak hx (by have:=hr2.size;omega)) (by have:=hr2.size;omega))
  have P2:=Avp ((hp.below hx).dom (D':=fun b=>w1.heap.size<=b∧b<w2.heap.size) fun _ h=>h)
  obtain⟨N,hN⟩:∃ N,N=w2.heap.size:=⟨_,rfl⟩
  have EN:=Avp hN
  rw[<-hN] at Y0 Y1 Y2
  clear hw2 hp hr2 hx y0 y1 y2 F2 R1
  go_wp2_with fail
  rw[<-hN]
  clear hN
  refine Bu 3 mixed (by kernel_rfl) (by kernel_rfl) ?_
  refine Al.step (Ob.loadV Aa.free Has.oldIs (fun w1 hb1=>KAt.load ⟨Y0.out,Y1.out,Y2.out⟩ hb1)) ?_
  refine Al.step (Ob.move Aa.free Has.oldIs) ?_
  refine Al.step (Ob.call1V Aa.free Aff (Has.new 1 0) (fun w1 hb1=>cAt (R2.out.keep (Ak hb1 R2.out.size) R2.out.size))) ?_
  simp only[Al,Ao,List.map,Bq,List.reverse_cons,List.reverse_nil,List.nil_append,List.cons_append,List.take_succ_cons,List.take_zero,List.drop_succ_cons,List.drop_zero]
  intro wE hE
  iterate 3 (rintro _ rfl)
  simp only[Act.put,List.setIfInBounds_toArray,List.set_cons_zero,List.set_cons_succ]
  have XC3:=Avp ((XC2.out.mono HX.out).mono hE);have XE3:=Avp ((XE2.out.mono HX.out).mono hE)
  have P3:=Avp (P2.out.below hE)
  have B3:=Avp (Ae B2.out (Ak (HX.out.le hE) (Nat.le_of_lt XC2.out.lt)))
  have SE:=Avp (Nat.le_trans HX.out.size hE.size)
  clear hE
  go_wp2_with ((with_reducible refine Ai (C) ?_ ?_);(next=>rfl))
  unfold Az
  refine Af (J:=C) rfl rfl rfl rfl rfl XC3.out (show(Tryz.prog.info? 141).map (·.size)=some 3 by kernel_rfl) rfl (by simp[Value.oneCell']) ?_
  intro w9 hx9 hu9
  have X9:=Avp hx9;have U9:=Avp hu9
  clear hx9 hu9
  have XE4:=Avp (U9.out.bx XE3.out (by omega))
  have e0:=XE4.out.cell 0 rfl;have ef:=XE4.out.fr 0 (by simp)
  go_wp2
  obtain⟨y3,u3⟩:=XE4.out.one (j:=0) (v:=.int .i64 0) (by simp)
  have xc3:=u3.bx X9.out (by omega)
  have b9:Below w.heap.size w (w9.setCell ⟨C+1,0,none⟩ (.int .i64 0)):=by
   rw[<-EC.out]
   exact Ae (Ae B3.out (U9.out.below (Nat.le_refl _))) (u3.below (by omega))
  have b1s:=B1.out.size
  have p9:Ck (fun b=>w.heap.size<=b∧b<(w9.setCell ⟨C+1,0,none⟩ (.int .i64 0)).heap.size) (w9.setCell ⟨C+1,0,none⟩ (.int .i64 0)) p x:=by
   have hr:=RC.out;have r1:=XE1.out.lt;have ec:=EC.out
   have h1:=(P3.out.wrote U9.out.wrote fun b hb=>⟨by have:=hb.1;omega,by simp⟩).wrote u3.wrote fun b hb=>⟨by have:=hb.1;omega,by simp⟩
   refine h1.dom fun b hb=>⟨by have:=hb.1;omega,?_⟩
   have h2:=hb.2
   have h3:=HX.out.size;have h4:=U9.out.size
   have h5:=X9.out.lt
   rw[u3.size,h4]
   rw[World.size_alloc] at h3
   exact Nat.lt_of_lt_of_le h2 (by have:=SE.out;omega)
  generalize w9.setCell ⟨C+1,0,none⟩ (.int .i64 0)=W3 at *
  have c0:=xc3.cell 0 rfl;have c1:=xc3.cell 1 rfl;have c2:=xc3.cell 2 rfl;have e1:=y3.cell 0 rfl
  have B9:=Avp b9;have P9:=Avp p9
  clear y3 u3 xc3 b9 p9 e0 ef b1s
  refine leaves_cons (f:=308) (args:=#[.pointer (some ⟨C+1,0,none⟩)]) (by simp) (by simp[go_sem]) ?_
  refine(Wl ⟨C+1,0,none⟩ W3).mono ?_
  rintro e u' w3 ⟨rfl,rfl,rfl⟩
  simp[Leaves,settle,results,Tryz.results225,go_sem,c0,c1,c2,e1]
  exact⟨B9.out,p,⟨⟨rfl,rfl,rfl⟩,⟨rfl,rfl,rfl⟩,rfl,rfl,rfl⟩,P9.out⟩
def Po (r:List UInt8):Option (EnS×Nat):=if (Dm 64 r).1≠0 then none else match Hj (r.drop (Dm 64 r).2.2) with
 | none=>none
 | some (c,u)=>some (((Dm 64 r).2.1,c),(Dm 64 r).2.2+u)
def Gr:Nat->List UInt8->Option (List EnS×Nat)
 | 0,_=>some ([],0)
 | n+1,r=>match Po r with
  | none=>none
  | some (d,u)=>Hy d u (Gr n (r.drop u))
def Fc (p:List UInt8):List EnS×Bool:=match Fy 1024 p with
 | none=>([],false)
 | some (m,u)=>match Gr m (p.drop u) with
  | none=>([],false)
  | some (l,v)=>(l,decide (p.length - (u+v)=0))
theorem Aie {r:List UInt8} (h:(Dm 64 r).1≠0):Po r=none:=by
 unfold Po
 generalize Dm 64 r=q at *
 rw[if_pos h]
theorem Ajs {r s:List UInt8} {v:Nat} (h:Dm 64 r=(0,s,v)) (h2:Hj (r.drop v)=none):Po r=none:=by
 unfold Po
 generalize Dm 64 r=q at *
 subst h
 simp only[ne_eq,not_true_eq_false,if_false,h2]
theorem Aek {r s:List UInt8} {v:Nat} (h:Dm 64 r=(0,s,v)) {c:Ar} {u:Nat} (h2:Hj (r.drop v)=some (c,u)):Po r=some ((s,c),v+u):=by
 unfold Po
 generalize Dm 64 r=q at *
 subst h
 simp only[ne_eq,not_true_eq_false,if_false,h2]
theorem Zx {n:Nat} {r:List UInt8} (h:Po r=none):Gr (n+1) r=none:=by unfold Gr;rw[h]
theorem Aa8 {n:Nat} {r:List UInt8} {x:EnS} {u:Nat} (h:Po r=some (x,u)) (acc:List EnS) (k:Nat):Dn acc k (Gr (n+1) r)=Dn (acc++[x]) (k+u) (Gr n (r.drop u)):=by
 rw[show Gr (n+1) r=Hy x u (Gr n (r.drop u)) by show(match Po r with | none=>none | some (d,u)=>Hy d u (Gr n (r.drop u)))=_;rw[h]]
 exact Kx _ _ _ _ _
structure Rc (R:Nat) (w0:World) (A:Option Addr) (n c:Nat) (l:List UInt8) (j:Nat) (u:Value) (acc:List EnS) (w:World):Prop where
 le:Below w0.heap.size w0 w
 rd:De (R+1) R l j w
 o:Gu w (R+1) u acc
 p:Sl encB w A n c l
 nm:Iv w
 r0:w0.heap.size<=R
 g0:2<w0.heap.size
theorem Sl.lowC {α:Type} {e:Enc α} {w w':World} {A:Option Addr} {n c C:Nat} {l:List α} (h:Sl e w A n c l) (hb:Below C w w') (hA:l≠[]->∀ a,A=some a->a.block<C):Sl e w' A n c l:=
 ⟨h.len,h.cap,h.max,h.nil,fun i x hi=>by
  obtain⟨b,o,rfl,hlt,h1⟩:=h.cell i x hi
  exact⟨b,o,rfl,Nat.lt_of_lt_of_le hlt hb.size,fun j u hj=>(hb.cell (p:=⟨b,_,none⟩) (show b<C from hA (fun e=>by subst e;simp at hi) ⟨b,o,none⟩ rfl)).trans (h1 j u hj)⟩⟩
section
variable {R:Nat} {w0 w w':World} {A:Option Addr} {n c:Nat} {l:List UInt8} {j j':Nat} {u u':Value} {acc acc':List EnS}
theorem Rc.mono (h:Rc R w0 A n c l j u acc w) (hb:Below w.heap.size w w'):Rc R w0 A n c l j u acc w':=⟨h.le.le hb,h.rd.keep (Ak hb h.rd.size) h.rd.size,h.o.mono hb,h.p.mono hb,h.nm.mono hb,h.r0,h.g0⟩
theorem Rc.step (h:Rc R w0 A n c l j u acc w) (hp:l≠[]->∀ a,A=some a->a.block<w0.heap.size) (hw:An R none w w') (hr:De (R+1) R l j' w'):Rc R w0 A n c l j' u acc w':=
 ⟨Ae h.le (hw.below h.le.size h.r0 (by simp)),hr,h.o.wrote hw (Nat.lt_succ_self _),h.p.wroteC hw fun hn a e=>⟨by have:=hp hn a e;have:=h.r0;omega,by simp⟩,h.nm.wrote hw (by have:=h.g0;have:=h.r0;omega),h.r0,h.g0⟩
theorem Rc.put (h:Rc R w0 A n c l j u acc w) (hp:l≠[]->∀ a,A=some a->a.block<w0.heap.size) (hb:Below (R+1) w w') (ho:Gu w' (R+1) u' acc'):Rc R w0 A n c l j u' acc' w':=
 ⟨Ae h.le (Ak hb (by have:=h.r0;omega)),h.rd.keep hb h.rd.size,ho,h.p.lowC hb fun hn a e=>by have:=hp hn a e;have:=h.r0;omega,h.nm.low hb (by have:=h.g0;have:=h.r0;omega),h.r0,h.g0⟩
end
def Atv (R:Nat) (w0:World) (A:Option Addr) (n c:Nat) (l:List UInt8) (many k:Nat) (MT:Option (List EnS×Nat)) (u i:Value) (wr:World):Prop:=
 ∃ (a m j:Nat) (acc:List EnS),i = .int .u64 (a:Nat)∧a+m=many∧Rc R w0 A n c l j u acc wr∧k<=j∧acc.length<=j∧MT=Dn acc (j - k) (Gr m (l.drop j))
theorem Aq8 {D:Nat->Prop} {A:Option Addr} {n c:Nat} {l:List EnS} {w:World} (h:Cb D w A n c l) (hn:Bk w) (hs:n<=1024):Calls Tryz.prog 144 #[.slice A n c] w (Ret w (IsB (Cf l))):=by
 have F:=Avp (Iu h hn)
 have hs2:(n:Int)<=1024:=by omega
 clear h hn
 go_enter Tryz.func144,Tryz.ntmps144
 go_wp2_with fail
 refine F.out.mono ?_
 rintro _ w1 ⟨_,rfl,hb1,rfl⟩
 go_wp2
 go_ret
 exact Ay rfl hb1
theorem W7 {w:World} {A:Option Addr} {n c k:Nat} (h:k<=n) (hc:n<=c):(Instr.sliceAt 23 (.slice A n c) (some (.int .i64 (k:Int))) none none).run Tryz.prog w = .ok (.slice (Np A c k) (n - k) (c - k)) w:=Jx h hc
def Aha (B:Nat) (r:List EnS×Bool) (w:World) (e:Ending) (w':World):Prop:=Below B w w'∧∃ v,e = .returned (.tuple #[v,.bool r.2])∧Jb B r.1 w' v
theorem Jb.nil_ (B:Nat) (w:World):Jb B [] w (.slice none 0 0):=⟨none,0,0,rfl,Cb.nil_ _ _⟩
theorem Gu.isEnts {B:Nat} {w:World} {u:Value} {l:List EnS} (h:Gu w B u l) {B':Nat} (hB:B'<=B):Jb B' l w u:=by
 obtain⟨A,c,rfl,h2⟩:=h.ents
 exact⟨A,_,c,rfl,h2.mono (Below.refl _ _) fun b hb=>⟨Nat.le_trans hB hb.1,hb.2⟩⟩
theorem Ahk {A:Option Addr} {n c:Nat} {l:List UInt8} {w:World} (h:Sl encB w A n c l) (hl:l.length<=200000) (hn:Iv w):Calls Tryz.prog 143 #[.slice A n c] w (Aha w.heap.size (Fc l) w):=by
 have HP:=Avp (fun hne=>h.lt_ hne)
 have HLN:=Avp h.len
 have HCP:=Avp h.cap
 have HG:=Avp hn.lt
 have HL:=Avp hl
 have F1:=Avp (Apd h (by have:=h.len;omega))
 have S0:=Avp h;have NM:=Avp hn
 unfold Aha
 obtain⟨T,hT⟩:∃ T,T=Fc l:=⟨_,rfl⟩
 rw[<-hT]
 unfold Fc at hT
 clear h hl hn
 go_enter Tryz.func143,Tryz.ntmps143
 go_wp2_with fail
 refine F1.out.mono ?_
 rintro _ w1 ⟨R,rfl,hb1,hR,hr1⟩
 have E1:=Avp (show Rc R w A n c l 0 (.slice none 0 0) [] w1 from⟨hb1,hr1,Gu.nil_ _ _,S0.out.mono hb1,NM.out.mono hb1,hR,HG.out⟩)
 have F2:=Avp (Aqn (most:=1024) hr1 hr1.size)
 rw[List.drop_zero] at F2
 clear hb1 hR hr1 F1 S0 NM
 go_wp2_with fail
 refine F2.out.mono ?_
 rintro _ w2 ⟨rfl,hw2,hr2⟩
 have E2:=Avp (E1.out.step HP.out hw2 hr2)
 clear hw2 hr2 F2 E1
 cases h1:Fy 1024 l with
 | none=>
  rw[h1] at hT
  simp only at hT
  subst hT
  obtain⟨he,h2⟩:=Tw h1
  generalize Dx 1024 l=q at *
  obtain⟨e,v,u⟩:=q
  simp only[Prod.mk.injEq] at he h2
  obtain⟨rfl,rfl⟩:=h2
  clear h1
  go_wp2
  refine bodyPost_ret (v:=.tuple #[.slice none 0 0,.bool false]) (by simp[results,Tryz.results143,go_sem]) rfl ?_
  exact⟨E2.out.le,_,rfl,Jb.nil_ _ _⟩
 | some q=>
  obtain⟨many,u0⟩:=q
  rw[h1] at hT
  simp only at hT
  obtain⟨hq,hq1,hq2,hq3⟩:=Cl h1
  rw[hq] at E2 ⊢
  simp only[Nat.zero_add] at E2 ⊢
  have HM:=Avp (show many<=1024∧u0<=l.length from⟨hq3,hq2⟩)
  obtain⟨MT,hMT⟩:∃ MT,MT=Gr many (l.drop u0):=⟨_,rfl⟩
  rw[<-hMT] at hT
  have EM:=Avp hMT;have HT:=Avp hT
  clear hT hMT hq hq1 hq2 hq3 h1
  go_wp2
  go_loopw [7,22] (fun u i wr=>Atv R w A n c l many u0 MT u i wr) (fun _ i _=>many - (intOf i).toNat)
  case atStart=>exact⟨0,many,u0,[],rfl,by omega,E2.out,Nat.le_refl _,by simp,by rw[EM.out,Nat.sub_self];cases Gr many (l.drop u0) <;> simp[Dn]⟩
  case round=>
   obtain⟨a,m,j,acc,rfl,ham,hst,hkj,hac,hv⟩:=hrel
   obtain⟨Au,cu,hu⟩:=hst.o.len
   subst hu
   have ST:=Avp hst;have HV:=Avp hv;have HK:=Avp hkj;have HA:=Avp hac;have HAM:=Avp ham
   clear hst hv hkj hac ham
   cases m with
   | zero=>
    have ha:¬(a:Int)<(many:Int):=by have:=HAM.out;omega
    have e:=HV.out
    unfold Gr Dn at e
    simp only[List.append_nil,Nat.add_zero] at e
    have et:=HT.out
    rw[e] at et
    simp only at et
    have ej:u0+(j - u0)=j:=by have:=HK.out;omega
    rw[ej] at et
    subst et
    have CL:=Avp (Asu ST.out.rd ST.out.rd.size)
    clear HV HT EM e
    go_wp2_with fail
    refine CL.out.mono ?_
    rintro _ w3 ⟨_,rfl,hb3,rfl⟩
    have S3:=Avp (ST.out.mono hb3)
    obtain⟨d,hd⟩:∃ d,d=l.length - j:=⟨_,rfl⟩
    obtain⟨r,hr⟩:∃ r,((d:Int)==0)=r:=⟨_,rfl⟩
    have ER:=Avp (show r=decide (l.length - j=0) by rw[<-hr,hd,Bool.eq_iff_iff];simp)
    rw[<-hd]
    clear hb3 CL hd
    go_wp2
    refine bodyPost_ret (v:=.tuple #[.slice Au acc.length cu,.bool r]) (by simp[results,Tryz.results143,go_sem]) rfl ?_
    exact⟨S3.out.le,_,by rw[ER.out],S3.out.o.isEnts (by have:=S3.out.r0;omega)⟩
   | succ m=>
    have ha:(a:Int)<(many:Int):=by have:=HAM.out;omega
    have C1:=Avp (Adb (most:=64) ST.out.rd ST.out.rd.size (by have:=HL.out;omega) (by omega))
    have LN:=Avp (fun h=>Wa (most:=64) (r:=l.drop j) h)
    obtain⟨e,nm,s,hq⟩:∃ e nm s,Dm 64 (l.drop j)=(e,nm,s):=⟨_,_,_,rfl⟩
    rw[hq] at C1 LN
    simp only at C1 LN
    by_cases he:e=0
    ·subst he
     have es:=LN.out rfl
     rw[List.length_drop] at es
     obtain⟨j1,hj1⟩:∃ j1,j1=j+s:=⟨_,rfl⟩
     rw[<-hj1] at C1
     have EJ:=Avp hj1
     have ES:=Avp es
     have hjn:j1<=n:=by have:=HLN.out;have:=ST.out.rd.le;omega
     have hsl:=fun w=>W7 (w:=w) (A:=A) hjn HCP.out
     clear LN es hj1
     go_wp2_with fail
     refine C1.out.mono ?_
     rintro _ w3 ⟨rfl,hw3,hr3⟩
     have S3:=Avp (ST.out.step HP.out hw3 hr3)
     have CA:=Avp (cAt S3.out.rd)
     clear hw3 hr3 C1
     go_wp2_with fail
     refine CA.out.mono ?_
     rintro _ w4 ⟨_,rfl,hb4,rfl⟩
     have S4:=Avp (S3.out.mono hb4)
     clear hb4 CA S3
     have F:=Avp (Alc (S4.out.p.cutB_ hjn) (by rw[List.length_drop];have:=HL.out;omega) S4.out.nm)
     unfold Aqc at F
     cases h2:Hj (l.drop j1) with
     | none=>
      have hno:Po (l.drop j)=none:=Ajs hq (by rw[Cp,<-EJ.out];exact h2)
      have ev:=HV.out
      rw[Zx hno] at ev
      have et:=HT.out
      rw[ev] at et
      simp only[Dn] at et
      rw[h2] at F
      simp only at F
      clear HV HT EM ev hno hq h2
      subst et
      go_wp2_with fail
      refine F.out.mono ?_
      rintro _ w5 ⟨hb5,rfl⟩
      have S5:=Avp (S4.out.mono hb5)
      clear hb5 F hsl
      go_wp2
      refine bodyPost_ret (v:=.tuple #[.slice none 0 0,.bool false]) (by simp[results,Tryz.results143,go_sem]) rfl ?_
      exact⟨S5.out.le.le (by go_grown),_,rfl,Jb.nil_ _ _⟩
     | some q=>
      obtain⟨ct,v⟩:=q
      have hw:=Xp h2
      have E:=Avp (HV.out.trans (Aa8 (Aek hq (by rw[Cp,<-EJ.out];exact h2)) acc _))
      rw[h2] at F
      simp only at F
      rw[List.length_drop] at hw
      have HW:=Avp hw
      have TKE:=Avp (show(if l.length - j1<v then (4:Int) else 0)=0 from if_neg (by omega))
      have TKE2:=Avp (show(if l.length - j1<v then j1 else j1+v)=j1+v from if_neg (by omega))
      clear HV hq h2 hw
      go_wp2_with fail
      refine F.out.mono ?_
      rintro _ w5 ⟨hb5,p,rfl,hp5⟩
      have S5:=Avp (S4.out.mono hb5)
      have hx6:Below w5.heap.size w5 (w5.alloc (.cells (Aw p) 141)):=by go_grown
      have S6:=Avp (S5.out.mono hx6)
      have P6:=Avp (hp5.below hx6)
      have N6:=Avp (Bx.new w5 (Aw p) 141)
      obtain⟨N,hN⟩:∃ N,N=w5.heap.size:=⟨_,rfl⟩
      rw[<-hN] at N6
      have EN:=Avp hN
      have L45:=Avp hb5.size
      have CT:=Avp (Ap1 (n:=v) S6.out.rd S6.out.rd.size (by have:=HL.out;omega) (by have:=HW.out;have:=HL.out;omega))
      rw[TKE.out,TKE2.out] at CT
      clear hb5 hp5 hx6 F hsl
      go_wp2_with fail
      rw[<-hN]
      clear hN
      refine CT.out.mono ?_
      rintro _ w7 ⟨v7,rfl,hw7,hr7⟩
      have S7:=Avp (S6.out.step HP.out hw7 hr7)
      have RN:=Avp (show R<N by have:=S5.out.rd.size;have:=EN.out;omega)
      have X7:=Avp (N6.out.wrote hw7 (by have:=RN.out;omega) (by simp))
      have P7:=Avp (P6.out.wrote hw7 fun b hb=>⟨by have:=hb.1;have:=S4.out.rd.size;omega,by simp⟩)
      have L7:=Avp (show N<w7.heap.size from X7.out.lt)
      clear hw7 hr7 CT S6 P6 N6
      have c0:=X7.out.cell 0 rfl;have c1:=X7.out.cell 1 rfl;have c2:=X7.out.cell 2 rfl
      have hx8:Below w7.heap.size w7 (w7.alloc (.cells (enC ⟨nm,ct,p⟩) 143)):=by go_grown
      have S8:=Avp (S7.out.mono hx8)
      have SL:=Avp (Sl.new encE w7 [⟨nm,ct,p⟩] (by simp) (enC ⟨nm,ct,p⟩) (by simp[Enc.all,encE]) 143)
      have EI:=Avp (show Jj (Abl (R+1) (w7.alloc (.cells (enC ⟨nm,ct,p⟩) 143)) (Value.slice Au acc.length cu).ownBlock) (w7.alloc (.cells (enC ⟨nm,ct,p⟩) 143)) ⟨nm,ct,p⟩ from
       ⟨(P7.out.below hx8).dom fun b hb=>⟨by have:=hb.1;have:=S4.out.rd.size;omega,by have:=hb.2;have:=L7.out;have:=EN.out;have:=hx8.size;omega,fun e=>by have:=(S4.out.o.own b e.symm).2;have:=hb.1;omega⟩,
        by have:=ES.out.1;show nm.length<=1000000;omega,by have:=HW.out;have:=HL.out;show Ch ct<=200000;omega⟩)
      have AL:=Avp (show acc.length+1<=1000000 by have:=HA.out;have:=ST.out.rd.le;have:=HL.out;omega)
      clear hx8
      go_wp2_with (first
       | (at_builtin;refine Jy (u:=.slice Au acc.length cu) (l:=acc) (e:=⟨nm,ct,p⟩) (B:=R+1) rfl rfl Tryz.underlying118 rfl rfl S8.out.o SL.out EI.out AL.out S8.out.rd.size ?_;intro u9 w9 o9 g9 _;have HB9:=Avp ((Below.refl (R+1) _).grown g9 S8.out.rd.size (fun q hq=>(S8.out.o.own q hq).1));have S9:=Avp (S8.out.put HP.out HB9.out o9);clear o9 g9 c0 c1 c2)
       | fail)
      have hwr:IntKind.u64.wrap ((a:Int)+1)=(a:Int)+1:=by simp only[IntKind.wrap_u64];have:=HAM.out;have:=HM.out;omega
      have HWR:=Avp hwr
      clear hwr
      go_roundw
      case rel=>exact⟨a+1,m,j1+v,acc++[(nm,ct)],by rw[HWR.out];rfl,by have:=HAM.out;omega,S9.out,by have:=HK.out;have:=EJ.out;omega,by have:=HA.out;have:=HW.out;have:=EJ.out;simp;omega,by
       rw[E.out,Cp]
       have:=EJ.out;have:=HK.out
       congr 1
       ·omega
       ·congr 2;omega⟩
      case measure=>simp[intOf,HWR.out];have:=HAM.out;omega
    ·have hno:Po (l.drop j)=none:=Aie (by rw[hq];exact he)
     have ev:=HV.out
     rw[Zx hno] at ev
     have et:=HT.out
     rw[ev] at et
     simp only[Dn] at et
     clear HV HT EM ev hno hq LN
     subst et
     go_wp2_with fail
     refine C1.out.mono ?_
     rintro _ w3 ⟨rfl,hw3,hr3⟩
     have S3:=Avp (ST.out.step HP.out hw3 hr3)
     clear hw3 hr3 C1
     go_wp2
     refine bodyPost_ret (v:=.tuple #[.slice none 0 0,.bool false]) (by simp[results,Tryz.results143,go_sem]) rfl ?_
     exact⟨S3.out.le,_,rfl,Jb.nil_ _ _⟩
def Agt (w:World) (b:Nat):Prop:=∀ j:Nat,j<256->w.cell? ⟨b,j,none⟩=some (.int .u32 (Jz j:Nat))
def Asr (w:World) (v:Value):Prop:=∃ b,v = .pointer (some ⟨b,0,none⟩)∧b<w.heap.size∧Agt w b
def Mg (w:World) (i:Value) (wr:World):Prop:=
 ∃ k:Nat,i = .int .i64 k∧k<=256∧Below w.heap.size w wr∧w.heap.size<wr.heap.size∧(∀ o,wr.frozen? ⟨w.heap.size,o,none⟩=false)∧(∀ j:Nat,j<256->∃ z:Int,wr.cell? ⟨w.heap.size,j,none⟩=some (.int .u32 z))∧∀ j:Nat,j<k->wr.cell? ⟨w.heap.size,j,none⟩=some (.int .u32 (Jz j:Nat))
theorem Ajz:Tryz.zeroCells442=Array.replicate 256 (.int .u32 0):=by rfl
theorem Mg.start (w:World):Mg w (.int .i64 0) (w.alloc (.cells Tryz.zeroCells442 442)):=by
 refine⟨0,rfl,by omega,(Below.refl _ _).alloc (Nat.le_refl _) _,(Array.getElem?_eq_some_iff.1 (heap_alloc_new w _)).1,fun o=>by simp[go_sem],fun j hj=>⟨0,?_⟩,fun j hj=>by omega⟩
 rw[cell_of_row _ _ _ _ _ (0,0) (heap_alloc_new w _),Ajz]
 simp[hj]
theorem Mg.next {w wr:World} {k:Nat} {z:Int} {i:Value} (hk:k<256) (hb:Below w.heap.size w wr) (hl:w.heap.size<wr.heap.size) (hf:∀ o,wr.frozen? ⟨w.heap.size,o,none⟩=false) (hz:∀ j:Nat,j<256->∃ z:Int,wr.cell? ⟨w.heap.size,j,none⟩=some (.int .u32 z)) (ht:∀ j:Nat,j<k->wr.cell? ⟨w.heap.size,j,none⟩=some (.int .u32 (Jz j:Nat)))
  (e:z=(Jz k:Nat)) (hi:i = .int .i64 ((k:Int)+1)):Mg w i (wr.setCell ⟨w.heap.size,k,none⟩ (.int .u32 z)):=by
 obtain⟨z0,h0⟩:=hz k hk
 refine⟨k+1,by rw[hi];simp,hk,hb.setCell (Nat.le_refl _) _,by rw[World.size_setCell];exact hl,fun o=>by have:=hf o;simpa [World.frozen?_setCell] using this,fun j hj=>?_,fun j hj=>?_⟩
 ·by_cases hjk:j=k
  ·subst hjk;exact⟨_,Ca h0⟩
  ·obtain⟨z1,h1⟩:=hz j hj
   exact⟨z1,Cs (fun e=>hjk (by simpa using (congrArg Addr.off e).symm)) h1⟩
 ·by_cases hjk:j=k
  ·subst hjk;rw[Ca h0,e]
  ·exact Cs (fun e=>hjk (by simpa using (congrArg Addr.off e).symm)) (ht j (by omega))
theorem Ac3 {m:Nat} {b:Bool} (hm:m<4294967296) (h:(Go.bits .and .u32 (m:Int) 1==1)=b):((m:Int) % 2==1)=b:=by
 have h1:Go.bits .and .u32 (m:Int) 1=((m &&& 1:Nat):Int):=Ank (b:=1) hm (by omega)
 rw[<-h,h1,Nat.and_one_is_mod];rfl
def Apc (W:World) (n:Nat) (s i:Value) (wr:World):Prop:=∃ k m:Nat,i = .int .i64 k∧s = .int .u32 m∧m<4294967296∧k<=8∧wr=W∧Abt 8 n=Abt (8 - k) m
theorem At4 (w:World):Calls Tryz.prog 300 #[] w (Ret w Asr):=by
 have H0:=Avp (Mg.start w)
 go_enter Tryz.func300,Tryz.ntmps300
 go_wp2
 go_loopw [5] (fun i wr=>Mg w i wr) (fun i _=>256 - (intOf i).toNat)
 case atStart=>exact H0.out
 case round=>
  obtain⟨k,rfl,hk,hb,hl,hf,hz,ht⟩:=hrel
  have HF:=Avp hf;clear hf
  by_cases hlt:k<256
  ·obtain⟨z0,c0⟩:=hz k hlt
   have HZ:=Avp hz;have HT:=Avp ht;have C0:=Avp c0;clear hz ht c0
   have hw:IntKind.u32.wrap (k:Int)=k:=M3 (by omega)
   go_wp2
   go_loopw [3,10] (fun s i wr1=>Apc wr k s i wr1) (fun _ i _=>8 - (intOf i).toNat)
   case atStart=>exact⟨0,k,rfl,rfl,by omega,by omega,rfl,rfl⟩
   case round=>
    obtain⟨r,m,rfl,rfl,hm,hr,rfl,hs⟩:=hrel
    by_cases hlr:r<8
    ·have HS:=Avp hs;clear hs
     have hstep:∀ m':Nat,m'=Hx m->∀ z:Int,z=(m':Int)->Apc wr k (.int .u32 z) (.int .i64 ((r:Int)+1)) wr:=fun m' e z hz=>⟨r+1,m',by simp,by rw[hz],by rw[e];exact Gw hm,hlr,rfl,by rw[HS.out,e,show 8 - r=(8 - (r+1))+1 by omega];rfl⟩
     have ST:=Avp hstep;clear hstep
     go_wp2
     ·rename_i ht
      refine⟨ST.out _ rfl _ (Agm hm (Ac3 hm ht)),?_⟩
      simp[intOf];omega
     ·rename_i ht
      refine⟨ST.out _ rfl _ (Aay (Ac3 hm ht)),?_⟩
      simp[intOf];omega
    ·have hr8:r=8:=by omega
     subst hr8
     have E:=Avp (show Jz k=m from hs)
     clear hs
     have c0:=C0.out
     have f0:=HF.out k
     go_wp2
     refine⟨Mg.next hlt hb hl HF.out HZ.out HT.out (by rw[E.out]) rfl,?_⟩
     simp[intOf];omega
  ·have hk:k=256:=by omega
   subst hk
   have HT:=Avp ht;clear ht hz
   go_wp2
   go_ret
   exact⟨_,rfl,hb,_,rfl,hl,HT.out⟩
theorem Ais {n:Nat} {x:UInt8} (h:n<4294967296):Ne n x<4294967296:=by rw[An4];exact Aj3 h
theorem Auc (b n:Nat) (x:UInt8) (w:World) (hn:n<4294967296) (ht:Agt w b) :
  Calls Tryz.prog 301 #[.pointer (some ⟨b,0,none⟩),.int .u32 n,.int .u8 x.toNat] w (Ret w (IsK .u32 (Ne n x))):=by
 have hx:x.toNat<256:=x.toNat_lt
 have hxr:Go.bits .xor .u8 ((n:Int) % 256) (x.toNat:Int)=(((n % 256) ^^^ x.toNat:Nat):Int):=Aqp (a:=n % 256) (Nat.mod_lt _ (by omega)) hx
 have hlt:(n % 256) ^^^ x.toNat<256:=Nat.xor_lt_two_pow (n:=8) (Nat.mod_lt _ (by omega)) hx
 have c0:=ht _ hlt
 have h2:Go.bits .xor .u32 (Jz ((n % 256) ^^^ x.toNat):Nat) ((n:Int) / 256)=((Jz ((n % 256) ^^^ x.toNat) ^^^ (n / 256):Nat):Int):=Pr (b:=n / 256) (Aic (Nat.lt_trans hlt (by omega))) (by omega)
 have E:=Avp (show Ne n x=Jz ((n % 256) ^^^ x.toNat) ^^^ (n / 256) from rfl)
 have H2:=Avp h2;clear h2
 generalize (n % 256) ^^^ x.toNat=r at *
 go_enter Tryz.func301,Tryz.ntmps301
 go_wp2
 go_ret
 exact Aju (by rw[E.out,H2.out]) (Below.refl _ _)
theorem Anb {n:Nat} (h:n<4294967296):4294967295 ^^^ n=4294967295 - n:=by
 apply Nat.eq_of_testBit_eq
 intro i
 have h1:=Nat.testBit_two_pow_sub_one 32 i
 have h2:=Nat.testBit_two_pow_sub_succ (n:=32) h i
 have e:4294967295 - n=2 ^ 32 - (n+1):=by omega
 rw[Nat.testBit_xor,e,h2]
 rw[show(2:Nat) ^ 32 - 1=4294967295 from rfl] at h1
 rw[h1]
 by_cases hi:i<32
 ·simp[hi]
 ·have:n.testBit i=false:=Nat.testBit_lt_two_pow (Nat.lt_of_lt_of_le h (Nat.pow_le_pow_right (n:=2) (by omega) (show 32<=i by omega)))
  simp[hi,this]
theorem Alo {n:Nat} (h:n<4294967296):Go.bits .xor .u32 IntKind.u32.max (n:Int)=((4294967295 - n:Nat):Int):=by
 rw[<-Anb h]
 exact Pr (a:=4294967295) (by omega) h
def Ac4 (w:World) (n:Nat) (l:List UInt8) (s i:Value) (wr:World):Prop:=
 ∃ k m:Nat,i = .int .i64 k∧s = .int .u32 m∧m<4294967296∧k<=n∧Below w.heap.size w wr∧Ux 4294967295 l=(l.drop k).foldl Ne m
theorem Ac4.next {w wr:World} {n k m m':Nat} {l:List UInt8} {x:UInt8} {i:Value} (hm:m' < 4294967296) (hk:k<n) (hb:Below w.heap.size w wr) (hs:Ux 4294967295 l=(l.drop k).foldl Ne m) (hd:l.drop k=x::l.drop (k+1)) (e:m'=Ne m x) (hi:i = .int .i64 ((k:Int)+1)):Ac4 w n l (.int .u32 m') i wr:=
 ⟨k+1,m',by rw[hi];simp,rfl,hm,hk,hb,by rw[hs,hd,e];rfl⟩
theorem Aj7 (A:Option Addr) (n c:Nat) (l:List UInt8) (w:World) (hsl:Sl encB w A n c l) :
  Calls Tryz.prog 221 #[.int .u32 0,.slice A n c] w (Ret w (IsK .u32 (Abm l))):=by
 have hn:=hsl.big
 have M:=Avp (At4 w)
 go_enter Tryz.func221,Tryz.ntmps221
 go_wp2_with (go_at_call 300;((with_reducible refine M.out.mono ?_);rintro e w1 ⟨_,rfl,hb1,b,rfl,hlb,ht⟩))
 go_loopw [6,14] (fun s i wr=>Ac4 w1 n l s i wr) (fun _ i _=>n - (intOf i).toNat)
 case atStart=>exact⟨0,4294967295,rfl,rfl,by omega,by omega,Below.refl _ _,rfl⟩
 case round=>
  obtain⟨k,m,rfl,rfl,hm,hk,hbw,hs⟩:=hrel
  have htr:Agt wr b:=fun j hj=>Ad hbw (ht j hj)
  by_cases hlt:k<n
  ·obtain⟨bb,o,x,rfl,-,-,d1,c1⟩:=((hsl.mono hb1).mono hbw).byte hlt
   have HS:=Avp hs;have D:=Avp d1;clear hs d1
   have C:=Avp (Auc b m x wr hm htr)
   have HT:=Avp ht;clear ht htr
   go_wp2_with (go_at_call 301;((with_reducible refine C.out.mono ?_);rintro e w2 ⟨_,rfl,hb2,rfl⟩))
   go_roundw
   case rel=>exact Ac4.next (Ais hm) hlt (hbw.le hb2) HS.out D.out rfl rfl
   case measure=>simp[intOf];omega
  ·have e:Abm l=4294967295 - m:=by unfold Abm;rw[hs,List.drop_of_length_le (by rw[<-hsl.len];omega)];rfl
   have E:=Avp e;clear hs e
   have HT:=Avp ht;clear ht htr
   go_wp2
   go_ret
   exact Aju (by rw[E.out,Alo hm]) (hb1.le hbw)
theorem Auz (A:Option Addr) (n c:Nat) (l:List UInt8) (w:World) (h:Sl encB w A n c l) :
  Calls Tryz.prog 142 #[.slice A n c] w (Ret w (IsK .u32 (Abm l))):=by
 have C:=Avp (Aj7 A n c l w h);clear h
 go_enter Tryz.func142,Tryz.ntmps142
 go_wp2_with (go_at_call 221;((with_reducible refine C.out.mono ?_);rintro e w1 ⟨_,rfl,hb1,rfl⟩))
 go_ret
 exact Aju rfl hb1
def Ot:List UInt8->Nat->Nat
 | [],a=>a
 | x::t,a=>Ot t ((a*256 % 4294967296) ||| x.toNat)
def Gy (p:List UInt8):Option (List EnS):=
 if p.length<4 then none
 else if Ot (p.drop (p.length - 4)) 0≠Abm (p.take (p.length - 4)) then none
 else if (Fc (p.take (p.length - 4))).2&&Cf (Fc (p.take (p.length - 4))).1 then some (Fc (p.take (p.length - 4))).1 else none
def Afw (B:Nat) (r:Option (List EnS)) (w:World) (e:Ending) (w':World):Prop:=Below B w w'∧match r with
 | some l=>∃ v,e = .returned (.tuple #[v,.int .i64 0])∧Jb B l w' v
 | none=>e = .returned (.tuple #[.slice none 0 0,.int .i64 12])
def Adq (w:World) (q:List UInt8) (s i:Value) (wr:World):Prop:=∃ k a:Nat,i = .int .i64 k∧k<=q.length∧s = .int .u32 a∧a<4294967296∧Below w.heap.size w wr∧Ot q 0=Ot (q.drop k) a
theorem Afr {w:World} {A:Option Addr} {n c k:Nat} (h:k<=c):(Instr.sliceAt 23 (.slice A n c) none (some (.int .i64 (k:Int))) none).run Tryz.prog w = .ok (.slice A k c) w:=by
 have h1:(0:Int)<=(k:Int):=by omega
 have h2:(k:Int)<=(c:Int):=by omega
 simp[go_sem,h1,h2]
theorem Ty:∀ (n:Nat) {r:List UInt8} {l:List EnS} {u:Nat},Gr n r=some (l,u)->l.length=n
 | 0,r,l,u,h=>by
  unfold Gr at h
  simp only[Option.some.injEq,Prod.mk.injEq] at h
  rw[<-h.1];rfl
 | n+1,r,l,u,h=>by
  unfold Gr at h
  split at h
  ·cases h
  ·obtain⟨t,v,h2,rfl,rfl⟩:=I6 h
   rw[List.length_cons,Ty n h2]
theorem Ov (p:List UInt8):(Fc p).1.length<=1024:=by
 unfold Fc
 split
 ·simp
 ·rename_i m u h1
  split
  ·simp
  ·rename_i l v h2
   rw[Ty m h2]
   exact(Cl h1).2.2.2
theorem Aed {w wr:World} {q:List UInt8} {j a:Nat} {x:UInt8} (ha:a<4294967296) (hj:j+1<=q.length) (hb:Below w.heap.size w wr) (hs:Ot q 0=Ot (q.drop (j+1)) ((a*256 % 4294967296) ||| x.toNat)) :
  Adq w q (.int .u32 (Go.bits .or .u32 ((a:Int)*256 % 4294967296) ((x.toNat:Int) % 4294967296))) (.int .i64 ((j:Int)+1)) wr:=by
 have hx:=x.toNat_lt
 have h1:((a:Int)*256 % 4294967296)=((a*256 % 4294967296:Nat):Int):=by omega
 have h2:((x.toNat:Int) % 4294967296)=(x.toNat:Int):=by omega
 have l1:a*256 % 4294967296<4294967296:=Nat.mod_lt _ (by decide)
 refine⟨j+1,(a*256 % 4294967296) ||| x.toNat,by simp,hj,?_,Nat.or_lt_two_pow (n:=32) l1 (by omega),hb,hs⟩
 rw[h1,h2,Aq7 l1 (by omega)]
theorem Mq {A:Option Addr} {n c:Nat} {l:List UInt8} {w:World} (h:Sl encB w A n c l) (hl:l.length<=200000) (hn:Iv w):Calls Tryz.prog 86 #[.slice A n c] w (Afw w.heap.size (Gy l) w):=by
 have hln:=h.len
 have hcp:=h.cap
 unfold Afw
 obtain⟨T,hT⟩:∃ T,T=Gy l:=⟨_,rfl⟩
 rw[<-hT]
 unfold Gy at hT
 have hn2:¬(16777216:Int)<(n:Int):=by omega
 have hsb:IntKind.i64.wrap ((n:Int) - 4)=(n:Int) - 4:=by simp[IntKind.wrap,IntKind.bits,IntKind.signed];omega
 by_cases h4:l.length<4
 ·rw[if_pos h4] at hT
  subst hT
  have hlt:(n:Int) - 4<0:=by omega
  clear h hn hcp
  go_enter Tryz.func86,Tryz.ntmps86
  go_wp2
  refine bodyPost_ret (v:=.tuple #[.slice none 0 0,.int .i64 12]) (by simp[results,Tryz.results86,go_sem]) rfl ?_
  exact⟨Below.refl _ _,rfl⟩
 ·rw[if_neg h4] at hT
  have hlt:¬(n:Int) - 4<0:=by omega
  obtain⟨k,hk⟩:∃ k:Nat,(n:Int) - 4=(k:Int):=⟨n - 4,by omega⟩
  have hkn:k<=n:=by omega
  have hkk:l.length - 4=k:=by omega
  rw[hkk] at hT
  rw[hk] at hsb hlt
  have hs1:=fun w=>Jx (w:=w) (A:=A) hkn hcp
  have hs2:=fun w=>Afr (w:=w) (A:=A) (n:=n) (c:=c) (k:=k) (by omega)
  have HT:=Avp hT;have NM:=Avp hn;have HL:=Avp hl
  have q0:=h.cutB_ hkn
  have p0:=h.take_ hkn
  have tl:(l.take k).length<=200000:=by rw[List.length_take];omega
  generalize Np A c k=A2 at *
  generalize n - k=n2 at *
  generalize c - k=c2 at *
  obtain⟨q,hq⟩:∃ q,l.drop k=q:=⟨_,rfl⟩
  obtain⟨r,hr⟩:∃ r,l.take k=r:=⟨_,rfl⟩
  rw[hq] at q0 HT
  rw[hr] at p0 HT tl
  have Q:=Avp q0;have P:=Avp p0;have TL:=Avp tl
  have hbig:=q0.big
  have LQ:=Avp q0.len
  clear h hn hT hl hln q0 p0 tl hq hr hkk
  go_enter Tryz.func86,Tryz.ntmps86
  go_wp2
  go_loopw [5,24] (fun s i wr=>Adq w q s i wr) (fun _ i _=>n2 - (intOf i).toNat)
  case atStart=>exact⟨0,0,rfl,Nat.zero_le _,rfl,by decide,Below.refl _ _,by simp⟩
  case round=>
   obtain⟨j,a,rfl,hj,rfl,ha,hb,hs⟩:=hrel
   have HS:=Avp hs;have HB:=Avp hb;have HA:=Avp ha;have HJ:=Avp hj
   clear hs hb ha hj
   by_cases hlt2:j<n2
   ·obtain⟨b,o,x,hA2,hbs,h1,d1,e1⟩:=(Q.out.mono HB.out).byte hlt2
    have hix:=(show(Instr.indexAt 23 (.slice A2 n2 c2) (.int .i64 (j:Int))).run Tryz.prog wr = .ok (.pointer (some ⟨b,o+j,none⟩)) wr by rw[hA2];simp[go_sem,hlt2])
    have D1:=Avp d1
    clear h1 d1 hA2
    go_wp2
    exact⟨Aed HA.out (by have:=LQ.out;omega) HB.out (HS.out.trans (by rw[D1.out,Ot])),by simp[intOf];omega⟩
   ·have hd:q.drop j=[]:=List.drop_eq_nil_of_le (by have:=LQ.out;omega)
    have e:=HS.out
    rw[hd,Ot] at e
    have CS:=Avp (Auz A k c r wr (P.out.mono HB.out))
    have et:=HT.out
    rw[e] at et
    have ET:=Avp et
    clear e et HS HT hd
    by_cases hne:a=Abm r
    ·have et:=ET.out
     rw[if_neg (by simp[hne])] at et
     subst hne
     have CE:=Avp (fun w1 (hb1:Below w.heap.size w w1)=>Ahk (P.out.mono hb1) TL.out (NM.out.mono hb1))
     unfold Aha at CE
     have EL:=Avp (Ov r)
     obtain⟨es,ok,hes⟩:∃ es ok,Fc r=(es,ok):=⟨_,_,rfl⟩
     rw[hes] at CE et EL
     have ET2:=Avp et
     simp only at CE
     clear ET et hes
     go_wp2_with fail
     refine CS.out.mono ?_
     rintro _ w3 ⟨_,rfl,hb3,rfl⟩
     have HB3:=Avp (HB.out.le hb3)
     clear hb3 CS
     go_wp2_with fail
     refine(CE.out w3 HB3.out).mono ?_
     rintro _ w4 ⟨hb4,v4,rfl,A4,n4,c4,rfl,he4⟩
     have HB4:=Avp (HB3.out.le hb4)
     have N4:=Avp he4.len
     cases ok with
     | false=>
      have et:=ET2.out
      simp only[Bool.false_and,Bool.false_eq_true,if_false] at et
      subst et
      clear ET2 he4 CE hb4
      go_wp2
      refine bodyPost_ret (v:=.tuple #[.slice none 0 0,.int .i64 12]) (by simp[results,Tryz.results86,go_sem]) rfl ?_
      exact⟨HB4.out,rfl⟩
     | true=>
      have F:=Avp (Aq8 he4 (NM.out.mono HB4.out).ok (by have:=EL.out;have:=N4.out;omega))
      have HE4:=Avp (he4.mono (Below.refl _ _) (D':=fun b=>w.heap.size<=b∧b<w4.heap.size) fun b hb=>⟨by have:=hb.1;have:=HB3.out.size;omega,hb.2⟩)
      clear he4 CE hb4
      cases ho:Cf es with
      | false=>
       rw[ho] at F
       have et:=ET2.out
       simp only[ho,Bool.and_false,Bool.false_eq_true,if_false] at et
       subst et
       clear ET2
       go_wp2_with fail
       refine F.out.mono ?_
       rintro _ w5 ⟨_,rfl,hb5,rfl⟩
       have HB5:=Avp (HB4.out.le hb5)
       clear hb5 F
       go_wp2
       refine bodyPost_ret (v:=.tuple #[.slice none 0 0,.int .i64 12]) (by simp[results,Tryz.results86,go_sem]) rfl ?_
       exact⟨HB5.out,rfl⟩
      | true=>
       rw[ho] at F
       have et:=ET2.out
       simp only[ho,Bool.and_true,if_true] at et
       subst et
       clear ET2
       go_wp2_with fail
       refine F.out.mono ?_
       rintro _ w5 ⟨_,rfl,hb5,rfl⟩
       have HB5:=Avp (HB4.out.le hb5)
       have HE5:=Avp (HE4.out.mono hb5 (D':=fun b=>w.heap.size<=b∧b<w5.heap.size) fun b hb=>⟨hb.1,Nat.lt_of_lt_of_le hb.2 hb5.size⟩)
       clear hb5 F
       go_wp2
       refine bodyPost_ret (v:=.tuple #[.slice A4 n4 c4,.int .i64 0]) (by simp[results,Tryz.results86,go_sem]) rfl ?_
       exact⟨HB5.out,_,rfl,A4,n4,c4,rfl,HE5.out⟩
    ·have hne2:((a:Int) != (Abm r:Int))=true:=by simp;omega
     have et:=ET.out
     rw[if_pos hne] at et
     subst et
     clear ET
     go_wp2_with fail
     refine CS.out.mono ?_
     rintro _ w3 ⟨_,rfl,hb3,rfl⟩
     have HB3:=Avp (HB.out.le hb3)
     clear hb3 CS
     go_wp2
     refine bodyPost_ret (v:=.tuple #[.slice none 0 0,.int .i64 12]) (by simp[results,Tryz.results86,go_sem]) rfl ?_
     exact⟨HB3.out,rfl⟩
theorem Jr (c:Ctx):(Fe c).1.length<=c.1.length+c.2.length∧(Fe c).2.length<=c.2.length:=by
 unfold Fe
 split
 ·exact⟨by omega,by omega⟩
 ·exact W6 c
theorem St (a b:Ctx):(Em a b).1.length+(Em a b).2.length<=2*(a.1.length+a.2.length+b.1.length+b.2.length):=by
 unfold Em
 have h:=Jr (Ex a.1 b.1,Be a.2 b.2)
 have h1:=If b.1 a.1
 have h2:=Cy a.2 b.2
 simp only at h
 omega
theorem Aex (a b:Ar) (nm:List UInt8):(Il a b nm).2.length<=Ch a+Ch b:=by
 show(Cw (Pf (Gt a b nm))).length<=_
 have h1:=No (Pf (Gt a b nm))
 have h2:(Pf (Gt a b nm)).length=(Gt a b nm).length:=List.length_mergeSort _
 have h3:(Gt a b nm).length<=(Ct a nm).length+(Ct b nm).length:=by
  unfold Gt
  rw[List.length_append]
  exact Nat.add_le_add (List.length_filter_le _ _) (List.length_filter_le _ _)
 have h4:=Jh (c:=a) (nm:=nm)
 have h5:=Jh (c:=b) (nm:=nm)
 omega
theorem Ra:∀ (l:List As) (m:Nat),(∀ x∈l,x.2.length<=m)->(Cn l).length<=l.length*m
 | [],m,_=>by simp[Cn]
 | x::t,m,h=>by
  have h1:=Ra t m fun y hy=>h y (List.mem_cons_of_mem _ hy)
  have h2:=h x List.mem_cons_self
  have e:(Cn (x::t)).length=x.2.length+(Cn t).length:=by simp[Cn,Dk]
  rw[e,List.length_cons,Nat.add_mul]
  omega
theorem Zk (a b:Ar) (l:List (List UInt8)):(Db a b l).length<=l.length∧(Cn (Db a b l)).length<=l.length*(Ch a+Ch b):=by
 have h1:(Db a b l).length<=l.length:=by
  unfold Db
  exact Nat.le_trans (List.length_filter_le _ _) (by simp)
 refine⟨h1,?_⟩
 have h2:=Ra (Db a b l) (Ch a+Ch b) fun x hx=>by
  unfold Db at hx
  obtain⟨nm,_,rfl⟩:=List.mem_map.1 (List.mem_filter.1 hx).1
  exact Aex a b nm
 exact Nat.le_trans h2 (Nat.mul_le_mul_right _ h1)
theorem Aah (a b:Ar):Ch (Im a b).1<=3*(Ch a+Ch b)+(Ch a+Ch b)*(Ch a+Ch b):=by
 unfold Im
 split
 ·have h1:=St a.ctx b.ctx
  have hn:(Dg a b).length<=Ch a+Ch b:=by
   unfold Dg
   refine Nat.le_trans (No _) ?_
   rw[It,List.length_append]
   unfold Df Ch
   simp only[List.length_map]
   omega
  obtain⟨h2,h3⟩:=Zk a b (Dg a b)
  have h4:(Dg a b).length*(Ch a+Ch b)<=(Ch a+Ch b)*(Ch a+Ch b):=Nat.mul_le_mul_right _ hn
  have h5:a.ctx.1.length+a.ctx.2.length+b.ctx.1.length+b.ctx.2.length<=Ch a+Ch b:=by unfold Ch;omega
  show(Em a.ctx b.ctx).1.length+(Em a.ctx b.ctx).2.length+(Db a b (Dg a b)).length+(Cn (Db a b (Dg a b))).length<=_
  omega
 ·simp[Bj,Ch,Cn]
theorem Eh:Ch Bj=0:=by simp[Bj,Ch,Cn]
theorem Abj (l:List Dot):(Ja l).ctx.1.length+(Ja l).ctx.2.length<=2*l.length:=by
 unfold Ja Wf
 split
 ·show(Ae0 ([],[]) l).1.length+(Ae0 ([],[]) l).2.length<=_
  unfold Ae0
  have h:=Jr (([]:List Dot),Be [] l)
  have h2:=Cy [] l
  simp only[List.length_nil,Nat.zero_add] at h h2
  show(Fe (([]:List Dot),Be [] l)).1.length+(Fe (([]:List Dot),Be [] l)).2.length<=_
  omega
 ·simp
theorem Tk (chk:Bool->Nat->Int) (d:Dot) (nm:List UInt8) (q:Int):Ch (Fn chk Bj d nm q).1<=10:=by
 unfold Fn
 split
 ·split
  ·split
   ·split
    ·have h:=Abj (Dl Bj nm++[d])
     have h2:(Dl Bj nm).length=0:=by
      unfold Dl
      split
      ·split
       ·rfl
       ·rfl
      ·rfl
     rw[List.length_append,h2] at h
     simp only[List.length_singleton] at h
     show _+_+_+(Cn [(nm,[_])]).length<=_
     simp only[Cn,Dk,List.flatMap_cons,List.flatMap_nil,List.map_cons,List.map_nil,List.append_nil,List.length_singleton]
     omega
    ·rw[Eh];omega
   ·rw[Eh];omega
  ·rw[Eh];omega
 ·rw[Eh];omega
theorem U3 (chk:Bool->Nat->Int) (d:Dot) (nm:List UInt8) (q:Int):Bd (Im Bj (Fn chk Bj d nm q).1).1:=by
 have h:=Aah Bj (Fn chk Bj d nm q).1
 have h2:=Tk chk d nm q
 rw[Eh,Nat.zero_add] at h
 generalize Ch (Fn chk Bj d nm q).1=s at h h2
 have h3:s*s<=10*10:=Nat.mul_le_mul h2 h2
 unfold Bd
 omega
theorem Abz (chk:Bool->Nat->Int) (d:Dot) (nm:List UInt8) (q:Int):Bd (Fn chk Bj d nm q).1:=by
 have h2:=Tk chk d nm q
 unfold Bd
 omega
structure Cr (w:World):Prop where
 nm:Iv w
 sm:N1 w
theorem Cr.mono {w w':World} (h:Cr w) (hb:Below w.heap.size w w'):Cr w':=⟨h.nm.mono hb,h.sm.mono hb⟩
theorem Cr.low {w w':World} {C:Nat} (h:Cr w) (hb:Below C w w') (h1:2<C) (h2:1<C):Cr w':=⟨h.nm.low hb h1,h.sm.low hb h2⟩
structure TFr (w:World) (T S M:Nat):Prop where
 t0:w.cell? ⟨T,0,none⟩=some (.slice (some ⟨S,0,none⟩) 1 1)
 t1:w.cell? ⟨T,1,none⟩=some (.int .i64 0)
 s0:w.cell? ⟨S,0,none⟩=some (.map (some M))
 m:w.heap[M]?=some (.map #[] 0)
theorem TFr.mono {w w':World} {T S M:Nat} (h:TFr w T S M) (hb:Below w.heap.size w w'):TFr w' T S M:=⟨Ad hb h.t0,Ad hb h.t1,Ad hb h.s0,(hb.block M (Array.getElem?_eq_some_iff.1 h.m).1).trans h.m⟩
theorem Ag8 {w:World} {T S M:Nat} (h:TFr w T S M):Calls Tryz.prog 286 #[.pointer (some ⟨T,0,none⟩)] w (Ret w (IsB false)):=by
 have h0:=h.t0
 clear h
 go_enter Tryz.func286,Tryz.ntmps286
 go_wp2
 go_ret
 exact Ay rfl (Below.refl _ _)
theorem Aci {w:World} {T S M:Nat} (s:List UInt8) (h:TFr w T S M) (g:Cr w) (hs:s.length<=1000000):Calls Tryz.prog 248 #[.pointer (some ⟨T,0,none⟩),Ac s] w (Ret w (Is (.tuple #[.int .i64 0,.int .i64 (if Dr s then 0 else 2)]))):=by
 have F0:=Avp (Ag8 h)
 have H:=Avp h
 have F1:=Avp (fun w1 (hb1:Below w.heap.size w w1)=>g.nm.ok.key w1 hb1 s hs)
 have F2:=Avp (fun w1 (hb1:Below w.heap.size w w1)=>Uy s 1 w1 (g.sm.mono hb1) hs (Nat.le_refl _) (by omega))
 have e0:Bs s 1=0:=Nat.mod_one _
 rw[e0] at F2
 clear h g hs e0
 cases hk:Dr s with
 | false=>
  rw[hk] at F1
  go_enter Tryz.func248,Tryz.ntmps248
  go_wp2_with fail
  refine F0.out.mono ?_
  rintro _ w1 ⟨_,rfl,hb1,rfl⟩
  have B1:=Avp hb1
  clear hb1
  go_wp2_with fail
  refine(F1.out w1 B1.out).mono ?_
  rintro _ w2 ⟨_,rfl,hb2,rfl⟩
  have B2:=Avp (B1.out.le hb2)
  clear hb2
  go_wp2
  refine bodyPost_ret (v:=.tuple #[.int .i64 0,.int .i64 2]) (by simp[results,Tryz.results248,go_sem]) rfl ?_
  exact⟨_,rfl,B2.out,rfl⟩
 | true=>
  rw[hk] at F1
  go_enter Tryz.func248,Tryz.ntmps248
  go_wp2_with fail
  refine F0.out.mono ?_
  rintro _ w1 ⟨_,rfl,hb1,rfl⟩
  have B1:=Avp hb1
  clear hb1
  go_wp2_with fail
  refine(F1.out w1 B1.out).mono ?_
  rintro _ w2 ⟨_,rfl,hb2,rfl⟩
  have B2:=Avp (B1.out.le hb2)
  have t0:=(H.out.mono B2.out).t0
  clear hb2
  go_wp2_with fail
  refine(F2.out w2 B2.out).mono ?_
  rintro _ w3 ⟨_,rfl,hb3,rfl⟩
  have B3:=Avp (B2.out.le hb3)
  clear hb3 t0
  go_wp2
  refine bodyPost_ret (v:=.tuple #[.int .i64 0,.int .i64 0]) (by simp[results,Tryz.results248,go_sem]) rfl ?_
  exact⟨_,rfl,B3.out,rfl⟩
theorem Auf {w:World} {T S M:Nat} (h:TFr w T S M):Calls Tryz.prog 250 #[.pointer (some ⟨T,0,none⟩)] w (Ret w (IsI 1024)):=by
 have F0:=Avp (Ag8 h)
 have H:=Avp h
 clear h
 go_enter Tryz.func250,Tryz.ntmps250
 go_wp2_with fail
 refine F0.out.mono ?_
 rintro _ w1 ⟨_,rfl,hb1,rfl⟩
 have B1:=Avp hb1
 have t1:=(H.out.mono B1.out).t1
 clear hb1
 go_wp2
 go_ret
 exact Gz rfl B1.out
end Go.Proofs.YthnbhjpahlceeaaGreatDoor
namespace Go.Proofs.YthnbhjpahlceeaaGreatDoor
open Go.RowKit Go.WideShapes
abbrev Ir:Array Value:=#[.int .i64 0,.slice none 0 0,.slice none 0 0,.slice none 0 0]
abbrev Ue (n:Int) (p:CPl):Value:=.agg #[.int .i64 n,.slice p.A p.n p.ca,.slice p.B p.m p.cb,.slice p.C p.k p.cc]
def P5 (B:Nat) (s:List UInt8) (w:World) (v:Value):Prop:=∃ p:CPl,v = .tuple #[Ue 0 p,.int .i64 (if Dr s then 0 else 2)]∧Ck (fun b=>B<=b∧b<w.heap.size) w p Bj
theorem Vr {s:List UInt8} (hs:s.length<=1000000):keyOf Tryz.prog 9 (Ac s)=some (Lit.string s):=by
 have:=WideMaps.keyOf_string_mk (P:=Tryz.prog) (k:=9) Tryz.underlying9 (s:=⟨⟨s⟩⟩) (Nat.le_trans hs Qx)
 simpa using this
theorem Ajm (w:World):(zeroValue 211).run Tryz.prog w = .ok (.agg Ir) w:=by
 obtain⟨i,h1,h2,_⟩:=info_parts (P:=Tryz.prog) (show(Tryz.prog.info? 211).map (fun i=>(i.zero,i.size,i.bytes))=some (some (.agg Ir),4,80) by kernel_rfl)
 simp[zeroValue,typeInfo,h1,h2]
theorem Ro {w:World} {M:Nat} {s:List UInt8} (c:Bool) (h:w.heap[M]?=some (.map #[] 0)) (hs:s.length<=1000000):(Instr.lookup 265 (.map (some M)) (Ac s) c).run Tryz.prog w = .ok (if c then .tuple #[.agg Ir,.bool false] else .agg Ir) w:=by
 have K:=Maps.string_keyed (P:=Tryz.prog) (k:=9) Tryz.underlying9
 rcases K.find w (Vr hs) [] (by simp) with⟨f1,_⟩ | ⟨j,e0,_,f2,_⟩
 ·simp[Instr.lookup,run_underlying Tryz.underlying265,MapKept.run_getObj_map h,K.check w _ (Vr hs),f1,Ajm,Result.andThen]
 ·simp at f2
theorem J3 (D:Nat->Prop) (w:World):Ck D w ⟨none,0,0,none,0,0,none,0,0⟩ Bj:=⟨Bc.nil_,Bc.nil_,⟨[],rfl,Sl.nil_ _ _,fun h=>absurd rfl h,fun _ h=>nomatch h⟩,fun h=>absurd rfl h,fun h=>absurd rfl h⟩
theorem As9 {w:World} {T S M:Nat} (s:List UInt8) (h:TFr w T S M) (g:Cr w) (hs:s.length<=1000000):Calls Tryz.prog 181 #[.pointer (some ⟨T,0,none⟩),Ac s] w (Ret w (P5 w.heap.size s)):=by
 have hb0:Below w.heap.size w (w.alloc (.cells Ir 211)):=by go_grown
 have X:=Avp (Bx.new w Ir 211)
 have F:=Avp (Aci s (h.mono hb0) (g.mono hb0) hs)
 have HB:=Avp hb0;have HS:=Avp hs
 have H:=Avp (h.mono hb0)
 obtain⟨N,hN⟩:∃ N,N=w.heap.size:=⟨_,rfl⟩
 have EN:=Avp hN
 rw[<-hN] at X
 unfold P5
 clear h g hs hb0
 cases hk:Dr s with
 | false=>
  rw[hk] at F
  simp only[Bool.false_eq_true,if_false] at F ⊢
  go_enter Tryz.func181,Tryz.ntmps181
  go_wp2_with fail
  rw[<-hN]
  clear hN
  refine F.out.mono ?_
  rintro _ w1 ⟨_,rfl,hb1,rfl⟩
  replace X:=Avp (X.out.mono hb1)
  replace HB:=Avp (HB.out.le hb1)
  clear hb1 F
  go_wp2_with ((with_reducible refine Ai (N) ?_ ?_);(next=>rfl))
  unfold Az
  refine Af (J:=N) rfl rfl rfl rfl rfl X.out (show(Tryz.prog.info? 211).map (·.size)=some 4 by kernel_rfl) rfl (by simp[Value.oneCell']) ?_
  intro w9 hx9 hu9
  have X9:=Avp hx9;have U9:=Avp hu9
  clear hx9 hu9
  go_wp2
  refine bodyPost_ret (v:=.tuple #[.agg Ir,.int .i64 2]) ?_ rfl ?_
  ·exact Ah Tryz.results181 rfl rfl X9.out Tryz.underlying211 rfl (show(Tryz.prog.info? 211).map (·.size)=some 4 by kernel_rfl)
  exact⟨_,rfl,Ae HB.out (U9.out.below (by rw[<-EN.out];exact Nat.le_refl _)),_,rfl,J3 _ _⟩
 | true=>
  rw[hk] at F
  simp only[if_true] at F ⊢
  go_enter Tryz.func181,Tryz.ntmps181
  go_wp2_with fail
  rw[<-hN]
  clear hN
  refine F.out.mono ?_
  rintro _ w1 ⟨_,rfl,hb1,rfl⟩
  replace X:=Avp (X.out.mono hb1)
  replace HB:=Avp (HB.out.le hb1)
  have H1:=Avp (H.out.mono hb1);have XN:=Avp X.out
  have t0:=H1.out.t0;have s0:=H1.out.s0;have m0:=H1.out.m
  have hl:=Ro (w:=w1) (s:=s) false H1.out.m HS.out
  simp only[Bool.false_eq_true,if_false] at hl
  clear hb1 F
  have b2:Below w1.heap.size w1 (w1.alloc (.cells Ir 211)):=by go_grown
  have XJ:=Avp (Bx.new w1 Ir 211)
  replace X:=Avp (X.out.mono b2)
  replace HB:=Avp (HB.out.le b2)
  have C:=Avp (Ada (w:=w1.alloc (.cells Ir 211)) (J3 (fun _=>True) _).at_ (show Bd Bj by unfold Bd;rw[Eh];omega))
  obtain⟨J,hJ⟩:∃ J,J=w1.heap.size:=⟨_,rfl⟩
  rw[<-hJ] at XJ
  have EJ:=Avp hJ
  have NJ:=Avp (show N<J by have:=X.out;rw[hJ];exact World.block_lt_of_cell? w1 ⟨N,0,none⟩ (by have:=XN.out.cell 0 rfl;exact this))
  clear b2
  go_wp2_with fail
  rw[<-hJ]
  clear hJ
  refine C.out.mono ?_
  rintro _ w3 ⟨_,rfl,hb3,p3,rfl,h3⟩
  replace X:=Avp (X.out.mono hb3)
  replace XJ:=Avp (XJ.out.mono hb3)
  replace HB:=Avp (HB.out.le hb3)
  have B3:=Avp hb3.size
  have P3:=Avp h3.if_
  have y0:=XJ.out.cell 0 rfl;have y1:=XJ.out.cell 1 rfl;have y2:=XJ.out.cell 2 rfl;have y3:=XJ.out.cell 3 rfl
  have f1:=XJ.out.fr 1 (by simp);have f2:=XJ.out.fr 2 (by simp);have f3:=XJ.out.fr 3 (by simp)
  clear hb3 h3 C hl t0 s0 m0
  obtain⟨xj,uj⟩:=Bx.setPart (pre:=[.int .i64 0]) (old:=[.slice none 0 0,.slice none 0 0,.slice none 0 0]) (post:=[]) XJ.out [.slice p3.A p3.n p3.ca,.slice p3.B p3.m p3.cb,.slice p3.C p3.k p3.cc] rfl
  have UJ:=Avp uj;have X4:=Avp (uj.bx X.out (by have:=NJ.out;omega))
  clear xj uj
  go_wp2_with ((with_reducible refine Ai (N) ?_ ?_);(next=>rfl))
  unfold Az
  refine Af (J:=N) rfl rfl rfl rfl rfl X4.out (show(Tryz.prog.info? 211).map (·.size)=some 4 by kernel_rfl) rfl (by simp[Value.oneCell']) ?_
  intro w9 hx9 hu9
  have X9:=Avp hx9;have U9:=Avp hu9
  clear hx9 hu9
  go_wp2
  refine bodyPost_ret (v:=.tuple #[Ue 0 p3,.int .i64 0]) ?_ rfl ?_
  ·exact Ah Tryz.results181 rfl rfl X9.out Tryz.underlying211 rfl (show(Tryz.prog.info? 211).map (·.size)=some 4 by kernel_rfl)
  have nj:=NJ.out;have en:=EN.out;have ej:=EJ.out
  refine⟨_,rfl,Ae (Ae HB.out (UJ.out.below (by omega))) (U9.out.below (by omega)),p3,rfl,?_⟩
  have h1:=(P3.out.wrote UJ.out.wrote fun b hb=>⟨by have:=hb.1;simp at this;omega,by simp⟩).wrote U9.out.wrote fun b hb=>⟨by have:=hb.1;simp at this;omega,by simp⟩
  exact h1.dom fun b hb=>⟨by have:=hb.1;simp at this;omega,by rw[U9.out.size];exact Nat.lt_of_lt_of_eq hb.2 UJ.out.size.symm⟩
end Go.Proofs.YthnbhjpahlceeaaGreatDoor
namespace Go.Proofs.YthnbhjpahlceeaaGreatDoor
open Go.RowKit
theorem Vl:Bo Bj=true:=by decide
theorem Wv:Ik Bj=(1,0):=by decide
theorem M7:Ii Bj=[]:=by decide
theorem Ly (nm:List UInt8):Qw Bj nm=(0,9):=by unfold Qw;rw[Vl];rfl
theorem Co:Bd Bj:=by unfold Bd;rw[Eh];omega
def Hv:VT:=fun _ v=>∃ e:Int,v = .int .i64 e
structure NPl where
 N:Nat
 T:Nat
 S:Nat
 M:Nat
 C:Nat
 I:Nat
 O:Nat
structure FN (w:World) (q:NPl) (n:Int):Prop where
 k0:w.cell? ⟨q.N,0,none⟩=some (.int .i64 1)
 k1:w.cell? ⟨q.N,1,none⟩=some (.int .i64 1)
 k2:w.cell? ⟨q.N,2,none⟩=some (.int .i64 1)
 k3:w.cell? ⟨q.N,3,none⟩=some (.int .i64 1)
 kT:w.cell? ⟨q.N,4,none⟩=some (.pointer (some ⟨q.T,0,none⟩))
 kC:w.cell? ⟨q.N,5,none⟩=some (.pointer (some ⟨q.C,0,none⟩))
 kI:w.cell? ⟨q.N,6,none⟩=some (.pointer (some ⟨q.I,0,none⟩))
 kO:w.cell? ⟨q.N,7,none⟩=some (.pointer (some ⟨q.O,0,none⟩))
 k8:w.cell? ⟨q.N,8,none⟩=some (.bool false)
 tab:TFr w q.T q.S q.M
 cnt:Kh w q.C 1 n
 inb:Bx w q.I [.int .i64 1,.slice none 0 0,.int .i64 0,.int .i64 0]
 out:Bx w q.O [.int .i64 1,.slice none 0 0,.slice none 0 0]
 frN:w.frozen? ⟨q.N,8,none⟩=false
 frT:w.frozen? ⟨q.T,1,none⟩=false
 frC:w.frozen? ⟨q.C,1,none⟩=false
theorem FN.mono {w w':World} {q:NPl} {n:Int} (h:FN w q n) (hb:Below w.heap.size w w'):FN w' q n:=
 ⟨Ad hb h.k0,Ad hb h.k1,Ad hb h.k2,Ad hb h.k3,Ad hb h.kT,Ad hb h.kC,Ad hb h.kI,Ad hb h.kO,Ad hb h.k8,h.tab.mono hb,h.cnt.mono hb,h.inb.mono hb,h.out.mono hb,
  (hb.frozen (p:=⟨q.N,8,none⟩) (show q.N<w.heap.size from World.block_lt_of_cell? w _ h.k0)).trans h.frN,(hb.frozen (p:=⟨q.T,1,none⟩) (show q.T<w.heap.size from World.block_lt_of_cell? w _ h.tab.t0)).trans h.frT,(hb.frozen (p:=⟨q.C,1,none⟩) (show q.C<w.heap.size from World.block_lt_of_cell? w _ h.cnt.c0)).trans h.frC⟩
theorem Hq {w:World} {q:NPl} {n:Int} (s:List UInt8) (h:FN w q n) (g:Cr w) (hs:s.length<=1000000):Calls Tryz.prog 122 #[.pointer (some ⟨q.N,0,none⟩),Ac s] w (Ret w (Ac9 w.heap.size Bj)):=by
 have hb0:Below w.heap.size w (w.alloc (.cells cartZ 141)):=by go_grown
 have X:=Avp (Bx.new w cartZ 141)
 have F:=Avp (As9 s (h.mono hb0).tab (g.mono hb0) hs)
 have HB:=Avp hb0
 have kT:=(h.mono hb0).kT
 obtain⟨N,hN⟩:∃ N,N=w.heap.size:=⟨_,rfl⟩
 have EN:=Avp hN
 rw[<-hN] at X
 clear h g hs hb0
 unfold P5 at F
 generalize (if Dr s=true then (0:Int) else 2)=e at *
 go_enter Tryz.func122,Tryz.ntmps122
 go_wp2_with fail
 rw[<-hN]
 clear hN
 refine F.out.mono ?_
 rintro _ w1 ⟨_,rfl,hb1,p,rfl,hp⟩
 replace X:=Avp (X.out.mono hb1)
 replace HB:=Avp (HB.out.le hb1)
 have P1:=Avp hp
 have S1:=Avp (show N<w1.heap.size from X.out.lt)
 have hb2:Below w1.heap.size w1 (w1.alloc (.cells #[.int .i64 0,.slice p.A p.n p.ca,.slice p.B p.m p.cb,.slice p.C p.k p.cc] 211)):=by go_grown
 replace X:=Avp (X.out.mono hb2)
 replace HB:=Avp (HB.out.le hb2)
 have B2:=Avp hb2
 clear hb1 hp F kT hb2
 go_wp2_with ((with_reducible refine Ai (N) ?_ ?_);(next=>rfl))
 unfold Az
 refine Af (J:=N) rfl rfl rfl rfl rfl X.out (show(Tryz.prog.info? 141).map (·.size)=some 3 by kernel_rfl) rfl (by simp[Value.oneCell']) ?_
 intro w9 hx9 hu9
 have X9:=Avp hx9;have U9:=Avp hu9
 clear hx9 hu9
 go_wp2
 refine bodyPost_ret (v:=Cd p) ?_ rfl ?_
 ·exact D5 Tryz.results122 rfl X9.out Tryz.underlying141 rfl (show(Tryz.prog.info? 141).map (·.size)=some 3 by kernel_rfl)
 have en:=EN.out
 refine⟨_,rfl,Ae HB.out (U9.out.below (by omega)),p,rfl,?_⟩
 have h1:=(P1.out.below B2.out).wrote U9.out.wrote fun b hb=>⟨by have:=hb.1;simp at this;omega,by simp⟩
 have b2:=B2.out.size
 exact h1.dom fun b hb=>⟨by have:=hb.1;simp at this;omega,by rw[U9.out.size];exact Nat.lt_of_lt_of_le hb.2 b2⟩
theorem Ahy {w:World} {D:Nat->Prop} {p:CPl} (h:Bg D w p Bj) (g:Bk w):Calls Tryz.prog 126 #[Cd p] w (Ret w (Is (.slice none 0 0))):=by
 obtain⟨hx,y0,y1,y2⟩:=Nx w p
 have HB:=Avp hx
 have F:=Avp (We (h.mono hx fun _ x=>x) (g.mono hx) Co)
 rw[M7] at F
 obtain⟨N,hN⟩:∃ N,N=w.heap.size:=⟨_,rfl⟩
 rw[<-hN] at y0 y1 y2
 clear h g hx
 go_enter Tryz.func126,Tryz.ntmps126
 go_wp2_with fail
 rw[<-hN]
 clear hN
 go_wp2_with fail
 refine F.out.mono ?_
 rintro _ w1 ⟨v1,rfl,hb1,hv1⟩
 obtain⟨A1,c1,rfl,_⟩:=Ag.sl hv1
 have B1:=Avp (HB.out.le hb1)
 clear hb1 hv1 F y0 y1 y2
 go_wp2
 go_loopw [3,11] (fun a i wr=>a = .slice none 0 0∧i = .int .i64 0∧Below w.heap.size w wr) (fun _ _ _=>0)
 case atStart=>exact⟨rfl,rfl,B1.out⟩
 case round=>
  obtain⟨rfl,rfl,hb⟩:=hrel
  have HB2:=Avp hb
  clear hb
  go_wp2
  go_ret
  exact⟨_,rfl,HB2.out,rfl⟩
theorem Aqm {w:World} {q:NPl} {n:Int} {D:Nat->Prop} {p:CPl} (k:Nat) (h:FN w q n) (g:Bk w) (hp:Bg D w p Bj) (hn:0<=n∧n<=1000) (hk:k<=1000):Calls Tryz.prog 186 #[.pointer (some ⟨q.N,0,none⟩),Cd p,.int .i64 (k:Int)] w (Ret w (IsI 0)):=by
 obtain⟨hx,y0,y1,y2⟩:=Nx w p
 have HB:=Avp hx
 have H:=Avp (h.mono hx)
 have F:=Avp (Apx (hp.mono hx fun _ x=>x) (g.mono hx) Co)
 rw[Wv] at F
 have HN:=Avp hn
 obtain⟨N,hN⟩:∃ N,N=w.heap.size:=⟨_,rfl⟩
 rw[<-hN] at y0 y1 y2
 clear h g hx hp hn
 cases k with
 | zero=>
  go_enter Tryz.func186,Tryz.ntmps186
  go_wp2
  go_ret
  exact Gz rfl HB.out
 | succ m=>
  have hk0:¬((m+1:Nat):Int)=0:=by omega
  go_enter Tryz.func186,Tryz.ntmps186
  go_wp2_with fail
  rw[<-hN]
  clear hN
  go_wp2_with fail
  refine F.out.mono ?_
  rintro _ w1 ⟨_,rfl,hb1,rfl⟩
  have B1:=Avp (HB.out.le hb1)
  have H1:=Avp (H.out.mono hb1)
  have kC:=H1.out.kC
  have L:=Avp (Apv H1.out.cnt HN.out.1 (by have:=HN.out.2;omega))
  rw[show(if ((1:Int)==0)=true then (0:Int) else 4294967295 - n)=4294967295 - n from rfl] at L
  clear hb1 F y0 y1 y2
  go_wp2_with fail
  refine L.out.mono ?_
  rintro _ w2 ⟨_,rfl,hb2,rfl⟩
  have B2:=Avp (B1.out.le hb2)
  clear hb2 L
  have hle:¬(4294967295 - n<(m:Int)+1):=by have:=HN.out.2;omega
  have w1':IntKind.u64.wrap (m:Int)=(m:Int):=wrap_u64 (by omega)
  have w2':IntKind.u64.wrap (1+(m:Int))=1+(m:Int):=by simp only[IntKind.wrap_u64];omega
  have w3':¬(1+(m:Int)<1):=by omega
  clear kC
  go_wp2
  go_ret
  exact Gz rfl B2.out
theorem Adh (c:Nat) (A:Option Addr) (s:List UInt8) (w:World):Calls Tryz.prog 249 #[.slice A 0 c,Ac s] w (Ret w (Is (.tuple #[.int .i64 0,.bool false]))):=by
 go_enter Tryz.func249,Tryz.ntmps249
 go_wp2
 go_loopw [7,8] (fun i j wr=>i = .int .i64 0∧j = .int .i64 0∧Below w.heap.size w wr) (fun _ _ _=>0)
 case atStart=>exact⟨rfl,rfl,Below.refl _ _⟩
 case round=>
  obtain⟨rfl,rfl,hb⟩:=hrel
  have HB2:=Avp hb
  clear hb
  go_wp2
  refine bodyPost_ret (v:=.tuple #[.int .i64 0,.bool false]) (by simp[results,Tryz.results249,go_sem]) rfl ?_
  exact⟨_,rfl,HB2.out,rfl⟩
def Xn:Enc (List UInt8×Int):=⟨2,fun s=>[Ac s.1,.int .i64 s.2],fun _=>rfl,fun s u hu=>by
 simp only[List.mem_cons,List.not_mem_nil,or_false] at hu
 rcases hu with rfl | rfl <;> rfl⟩
theorem Sl.line {w:World} {A:Option Addr} {n c:Nat} {l:List (List UInt8×Int)} (h:Sl Xn w A n c l) {k:Nat} (hk:k<n):∃ b o m,A=some ⟨b,o,none⟩∧l[k]?=some m∧w.cell? ⟨b,o+k*2,none⟩=some (Ac m.1)∧w.cell? ⟨b,o+k*2+1,none⟩=some (.int .i64 m.2):=by
 obtain⟨b,o,m,h1,h2,h3,h4,h5⟩:=h.at_ hk
 exact⟨b,o,m,h1,h3,h5 0 _ rfl,h5 1 _ rfl⟩
def Aqv (w:World) (n:Nat) (a i:Value) (wr:World):Prop:=∃ k m:Nat,i = .int .i64 k∧a = .int .i64 m∧m<=k∧k<=n∧Below w.heap.size w wr
structure Ao3 (w:World) (J:Nat) (p:CPl):Prop where
 c0:w.cell? ⟨J,0,none⟩=some (.int .i64 0)
 c1:w.cell? ⟨J,1,none⟩=some (.slice p.A p.n p.ca)
 c2:w.cell? ⟨J,2,none⟩=some (.slice p.B p.m p.cb)
 c3:w.cell? ⟨J,3,none⟩=some (.slice p.C p.k p.cc)
theorem Ao3.mono {w w':World} {J:Nat} {p:CPl} (h:Ao3 w J p) (hb:Below w.heap.size w w'):Ao3 w' J p:=⟨Ad hb h.c0,Ad hb h.c1,Ad hb h.c2,Ad hb h.c3⟩
theorem Ahw {w:World} {q:NPl} {n:Int} {A:Option Addr} {m c:Nat} {l:List (List UInt8×Int)} (s:List UInt8) (h:FN w q n) (g:Cr w) (hs:s.length<=1000000) (hl:Sl Xn w A m c l) (hm:m<=100) (hnm:∀ x∈l,x.1.length<=1000000) (hn:0<=n∧n<=1000) :
  Calls Tryz.prog 185 #[.pointer (some ⟨q.N,0,none⟩),Ac s,.slice A m c] w (Ret w Hv):=by
 have F:=Avp (As9 s h.tab g hs)
 have H:=Avp h;have G:=Avp g;have L:=Avp hl;have HM:=Avp hm;have HNM:=Avp hnm;have HN:=Avp hn
 have kT:=h.kT
 clear h g hs hl hnm hn
 unfold P5 at F
 generalize (if Dr s=true then (0:Int) else 2)=e at *
 go_enter Tryz.func185,Tryz.ntmps185
 go_wp2_with fail
 refine F.out.mono ?_
 rintro _ w1 ⟨_,rfl,hb1,p,rfl,hp⟩
 have P1:=Avp hp.at_
 have hb2:Below w1.heap.size w1 (w1.alloc (.cells #[.int .i64 0,.slice p.A p.n p.ca,.slice p.B p.m p.cb,.slice p.C p.k p.cc] 211)):=by go_grown
 obtain⟨J,hJ⟩:∃ J,J=w1.heap.size:=⟨_,rfl⟩
 have SN:=Avp (show Ao3 (w1.alloc (.cells #[.int .i64 0,.slice p.A p.n p.ca,.slice p.B p.m p.cb,.slice p.C p.k p.cc] 211)) J p by rw[hJ];exact⟨by simp[go_sem],by simp[go_sem],by simp[go_sem],by simp[go_sem]⟩)
 have B2:=Avp (hb1.le hb2)
 have P2:=Avp (P1.out.mono hb2 fun _ x=>x)
 have C:=Avp (We P2.out (G.out.nm.ok.mono B2.out) Co)
 rw[M7] at C
 clear hb1 hp F kT hb2 P1
 go_wp2_with fail
 rw[<-hJ]
 clear hJ
 refine C.out.mono ?_
 rintro _ w3 ⟨v3,rfl,hb3,hv3⟩
 obtain⟨A3,c3,rfl,_⟩:=Ag.sl hv3
 have B3:=Avp (B2.out.le hb3)
 have S3:=Avp (SN.out.mono hb3);have P3:=Avp (P2.out.mono hb3 fun _ x=>x)
 clear hb3 hv3 C SN P2 B2
 have hbig:=L.out.big
 go_wp2
 go_loopw [10,31] (fun a i wr=>Aqv w3 m a i wr) (fun _ i _=>m - (intOf i).toNat)
 case atStart=>exact⟨0,0,rfl,rfl,Nat.le_refl _,Nat.zero_le _,Below.refl _ _⟩
 case round=>
  obtain⟨k,a,rfl,rfl,hak,hk,hb⟩:=hrel
  have HB:=Avp hb;have HAK:=Avp hak;have HK:=Avp hk
  clear hb hak hk
  have S4:=Avp (S3.out.mono HB.out)
  have q0:=S4.out.c0;have q1:=S4.out.c1;have q2:=S4.out.c2;have q3:=S4.out.c3
  have JL:=World.block_lt_of_cell? wr _ S4.out.c0
  by_cases hlt:k<m
  ·obtain⟨b,o,x,hA,hx,x0,x1⟩:=(L.out.mono (B3.out.le HB.out)).line hlt
   have hix:=(show(Instr.indexAt 57 (.slice A m c) (.int .i64 (k:Int))).run Tryz.prog wr = .ok (.pointer (some ⟨b,o+k*2,none⟩)) wr by rw[hA];simp[go_sem,hlt])
   have hb5:Below wr.heap.size wr (wr.alloc (.cells #[Ac x.1,.int .i64 x.2] 204)):=by go_grown
   have B5:=Avp ((B3.out.le HB.out).le hb5)
   have HB5:=Avp (HB.out.le hb5)
   have F:=Avp (Ath (nm:=x.1) (q:=x.2) (P3.out.mono HB5.out fun _ x=>x) (G.out.nm.ok.mono B5.out) Co (HNM.out x (List.mem_of_getElem? hx)))
   obtain⟨r9,hr9⟩:∃ r,U0 Bj x.1 x.2=r:=⟨_,rfl⟩
   rw[hr9] at F
   clear hr9
   obtain⟨v,e9⟩:=r9
   simp only at F
   have HLT:=Avp hlt
   obtain⟨K,hK⟩:∃ K,K=wr.heap.size:=⟨_,rfl⟩
   have EK:=Avp hK
   have z0:(wr.alloc (.cells #[Ac x.1,.int .i64 x.2] 204)).cell? ⟨K,0,none⟩=some (Ac x.1):=by rw[hK];simp[go_sem]
   have Z0:=Avp z0
   clear hA hx z0 hb5
   go_wp2_with fail
   rw[<-hK]
   clear hK
   refine F.out.mono ?_
   rintro _ w6 ⟨_,rfl,hb6,rfl⟩
   have B6:=Avp (B5.out.le hb6);have HB6:=Avp (HB5.out.le hb6)
   have z0:=Ad hb6 Z0.out
   clear hb6 F x0 x1 hix q0 q1 q2 q3 JL
   by_cases he:e9=0
   ·subst he
    go_wp2_with fail
    refine(Adh c3 A3 x.1 w6).mono ?_
    rintro _ w7 ⟨_,rfl,hb7,rfl⟩
    have HB7:=Avp (HB6.out.le hb7)
    clear hb7 z0
    go_wp2
    have WA:=Avp (show wrap64 ((a:Int)+1)=(a:Int)+1 by have:=HAK.out;have:=HK.out;have:=HM.out;simp only[wrap64];omega)
    go_roundw
    case rel=>exact⟨k+1,a+1,by simp,by rw[WA.out];rfl,by have:=HAK.out;omega,HLT.out,HB7.out⟩
    case measure=>simp[intOf];have:=HLT.out;omega
   ·have he2:(e9 != 0)=true:=by simp[he]
    clear z0
    go_wp2
    go_ret
    exact⟨_,rfl,B6.out,e9,rfl⟩
  ·have hkm:k=m:=by have:=HK.out;omega
   subst hkm
   have ham:¬(256:Int)<(a:Int):=by have:=HAK.out;have:=HM.out;omega
   have RM:=Avp (fun w5 (hb5:Below wr.heap.size wr w5)=>Auf ((H.out.mono (B3.out.le HB.out)).mono hb5).tab)
   have kT:=(H.out.mono (B3.out.le HB.out)).kT
   have LT:=Avp (fun w5 (hb5:Below wr.heap.size wr w5)=>Aqm k ((H.out.mono (B3.out.le HB.out)).mono hb5) (G.out.nm.ok.mono ((B3.out.le HB.out).le hb5)) (P3.out.mono (HB.out.le hb5) fun _ x=>x) HN.out (by have:=HM.out;omega))
   have HBW:=Avp (B3.out.le HB.out)
   by_cases a0:a=0
   ·subst a0
    by_cases k0:k=0
    ·subst k0
     go_wp2_with fail
     refine(LT.out wr (Below.refl _ _)).mono ?_
     rintro _ w5 ⟨_,rfl,hb5,rfl⟩
     have HB5:=Avp (HBW.out.le hb5)
     clear hb5 q0 q1 q2 q3 kT
     go_wp2
     go_ret
     exact⟨_,rfl,HB5.out,0,rfl⟩
    ·have k1:(0:Int)<(k:Int):=by omega
     go_wp2_with fail
     refine(RM.out wr (Below.refl _ _)).mono ?_
     rintro _ w5 ⟨_,rfl,hb5,rfl⟩
     have S5:=Avp (S4.out.mono hb5)
     have HB5:=Avp (HBW.out.le hb5)
     have L5:=Avp (LT.out w5 hb5)
     clear hb5 q0 q1 q2 q3 kT JL
     have q0:=S5.out.c0;have q1:=S5.out.c1;have q2:=S5.out.c2;have q3:=S5.out.c3
     go_wp2_with fail
     refine L5.out.mono ?_
     rintro _ w6 ⟨_,rfl,hb6,rfl⟩
     have HB6:=Avp (HB5.out.le hb6)
     clear hb6 q0 q1 q2 q3
     go_wp2
     go_ret
     exact⟨_,rfl,HB6.out,0,rfl⟩
   ·have k1:(0:Int)<(k:Int):=by have:=HAK.out;omega
    have a1:(0:Int)<(a:Int):=by omega
    go_wp2_with fail
    refine(RM.out wr (Below.refl _ _)).mono ?_
    rintro _ w5 ⟨_,rfl,hb5,rfl⟩
    have S5:=Avp (S4.out.mono hb5)
    have HB5:=Avp (HBW.out.le hb5)
    have L5:=Avp (LT.out w5 hb5)
    clear hb5 q0 q1 q2 q3 kT JL
    have q0:=S5.out.c0;have q1:=S5.out.c1;have q2:=S5.out.c2;have q3:=S5.out.c3
    go_wp2_with fail
    refine L5.out.mono ?_
    rintro _ w6 ⟨_,rfl,hb6,rfl⟩
    have HB6:=Avp (HB5.out.le hb6)
    clear hb6 q0 q1 q2 q3
    go_wp2
    go_ret
    exact⟨_,rfl,HB6.out,0,rfl⟩
theorem Afm {w:World} {C:Nat}:(Instr.fieldAt 268 (.pointer (some ⟨C,0,none⟩)) 0).run Tryz.prog w = .ok (.pointer (some ⟨C,0,none⟩)) w:=by simp[go_sem]
theorem Agn {w:World} {C:Nat}:(Instr.fieldAt 268 (.pointer (some ⟨C,0,none⟩)) 1).run Tryz.prog w = .ok (.pointer (some ⟨C,1,none⟩)) w:=by simp[go_sem]
theorem Ew {w0 w:World} {C k:Nat} {r:Int} (hb:Below w0.heap.size w0 w) (h:w0.cell? ⟨C,k,none⟩=some (.int .i64 r)):(Instr.loadAt 3 (.pointer (some ⟨C,k,none⟩))).run Tryz.prog w = .ok (.int .i64 r) w:=by
 have c1:=Ad hb h
 simp[go_sem,c1]
theorem Ht {w:World} {a b c:Int} {x y:Operand} (h:IntKind.i64.wrap (a+b)=c):(eqGuard .add 3 x y (.int .i64 a) (.int .i64 b)).run Tryz.prog w = .ok () w∧(Go.binOp .add 3 (.int .i64 a) (.int .i64 b)).run Tryz.prog w = .ok (.int .i64 c) w:=by
 refine⟨by simp[eqGuard,go_sem],?_⟩
 simp[go_sem]
 exact h
theorem Abn {w:World} {a b:Int}:(Instr.build 224 #[(0,.int .i64 a),(1,.int .i64 b)]).run Tryz.prog w = .ok (.agg #[.int .i64 a,.int .i64 b]) w:=by simp[go_sem]
theorem Aqx {w:World} {C:Nat} {r n:Int} (h:Kh w C r n) (hr:(r==0)=false) (h0:0<=n) (h1:n<4294967295):Calls Tryz.prog 199 #[.pointer (some ⟨C,0,none⟩),.int .i64 1] w (Ret w (fun w' v=>∃ g:Nat,v = .tuple #[.slice (some ⟨g,0,none⟩) 1 1,.int .i64 0]∧w.heap.size<=g∧w'.cell? ⟨g,0,none⟩=some (.int .i64 r)∧w'.cell? ⟨g,1,none⟩=some (.int .i64 (n+1)))):=by
 have F:=Avp (Apq h)
 have H:=Avp h
 have LL:=Avp (fun(w':World) (hb:Below w.heap.size w w')=>Apv (h.mono hb) h0 (by omega))
 rw[hr] at F LL
 have hl:¬4294967295 - n<1:=by omega
 have WN:=Avp (show IntKind.i64.wrap (n+1)=n+1 by simp[IntKind.wrap,IntKind.bits,IntKind.signed];omega)
 clear h hr h0 h1
 go_enter Tryz.func199,Tryz.ntmps199
 go_wp2_with fail
 refine F.out.mono ?_
 rintro _ w1 ⟨_,rfl,hb1,rfl⟩
 have B1:=Avp hb1
 clear hb1 F
 go_wp2_with fail
 refine(LL.out w1 B1.out).mono ?_
 rintro _ w2 ⟨_,rfl,hb2,rfl⟩
 rw[show(if false=true then (0:Int) else 4294967295 - n)=4294967295 - n from rfl]
 have B2:=Avp (B1.out.le hb2)
 clear hb2 LL
 go_wp2_with (first | (at_make;refine Az.go ?_) | fail)
 unfold Az
 obtain⟨i,hi,hz,hsz,hby⟩:=info_parts (P:=Tryz.prog) (show(Tryz.prog.info? 224).map (fun i=>(i.zero,i.size,i.bytes))=some (some (.agg #[.int .i64 0,.int .i64 0]),2,16) by kernel_rfl)
 refine wpList_make_full w2 rfl _ _ 135 rfl w2.heap.size 224 i _ 2 Tryz.underlying135 hi hz hsz .i64 .i64 1 1 1 rfl rfl rfl rfl (by rw[hby];omega) (by unfold maxLen;omega) (Nat.le_refl _) ?_
 intro w3 ho hg
 obtain⟨g,hgd⟩:∃ g,g=w2.heap.size:=⟨_,rfl⟩
 rw[<-hgd] at ho ⊢
 rw[show(madeCells (Value.agg #[.int .i64 0,.int .i64 0]).cells (1*2)).toList=[.int .i64 0,.int .i64 0] by kernel_rfl] at ho
 have X3:=Avp (show Bx w3 g [.int .i64 0,.int .i64 0] from⟨fun j v hj=>by
   have:=World.ownsRow.cells ho rfl j v hj
   rwa [Bz] at this,fun j hj=>by
   have h2:j<2:=hj
   have:=World.ownsRow.cells ho rfl j (.int .i64 0) (by
    have:j=0∨j=1:=by omega
    rcases this with rfl | rfl <;> rfl)
   rw[Bz] at this
   exact⟨by rw[this];rfl,World.ownsRow.frozenAt ho _⟩,(World.ownsRow.lt ho g rfl).2⟩)
 have B3:=Avp (show Below w.heap.size w w3 from B2.out.trans ((Below.refl _ _).grown hg B2.out.size (fun q hq=>nomatch hq)))
 have B23:=Avp (show Below w2.heap.size w2 w3 from(Below.refl _ _).grown hg (Nat.le_refl _) (fun q hq=>nomatch hq))
 have EG:=Avp hgd
 clear ho hg hi hz hsz hby hgd
 go_wp2
 go_loopw [27] (fun i wr=>∃ k:Nat,i = .int .i64 k∧k<=1∧Below w.heap.size w wr∧Kh wr C r n∧∃ a b:Int,Bx wr g [.int .i64 a,.int .i64 b]∧(k=1->a=r∧b=n+1)) (fun i _=>1 - (intOf i).toNat)
 case atStart=>exact⟨0,rfl,by omega,B3.out,H.out.mono B3.out,0,0,X3.out,fun h=>by omega⟩
 case round=>
  obtain⟨k,rfl,hk,hb,hc,a,b,hx,hab⟩:=hrel
  have HB:=Avp hb;have HC:=Avp hc;have HX:=Avp hx
  clear hb hc hx
  cases k with
  | zero=>
   clear hab
   have W0:=Avp (show IntKind.i64.wrap (n+1+(0:Nat))=n+1 by rw[show(n+1+((0:Nat):Int))=n+1 by simp];exact WN.out)
   have IX0:=Avp (fun w=>(show(Instr.indexAt 135 (.slice (some ⟨g,0,none⟩) 1 1) (.int .i64 ((0:Nat):Int))).run Tryz.prog w = .ok (.pointer (some ⟨g,0,none⟩)) w by simp[go_sem]))
   go_wp2_with fail
   refine Bu 15 mixed (by kernel_rfl) (by kernel_rfl) ?_
   refine Al.step (Ob.move Aa.free Has.oldIs) ?_
   refine Al.step (Ob.move Aa.free Has.oldIs) ?_
   refine Al.step (Ob.move Aa.free Has.oldIs) ?_
   refine Al.step (Ob.nilV Aa.free (Has.new 2 0)) ?_
   refine Al.step (Ob.fieldV Aa.free (Has.new 3 0) (fun w1=>Afm)) ?_
   refine Al.step (Ob.loadV Aa.free (Has.new 4 0) (fun w1 hb1=>Ew hb1 HC.out.c0)) ?_
   refine Al.step (Ob.move Aa.free Has.oldIs) ?_
   refine Al.step (Ob.nilV Aa.free (Has.new 6 0)) ?_
   refine Al.step (Ob.fieldV Aa.free (Has.new 7 0) (fun w1=>Agn)) ?_
   refine Al.step (Ob.loadV Aa.free (Has.new 8 0) (fun w1 hb1=>Ew hb1 HC.out.c1)) ?_
   refine Al.step (Ob.binV Aa.free (Has.new 9 0) (Has.cst _) (fun w1=>Ht WN.out)) ?_
   refine Al.step (Ob.move Aa.free Has.oldIs) ?_
   refine Al.step (Ob.binV Aa.free (Has.new 10 1) (Has.new 11 0) (fun w1=>Ht W0.out)) ?_
   refine Al.step ((Ob.build2 (F:=Is (.agg #[.int .i64 r,.int .i64 (n+1)]))) Aa.free (Has.new 5 7) (Has.new 12 0) (fun w1 u v hb1 hu hv=>by cases hu;cases hv;exact⟨_,Abn,rfl⟩)) ?_
   refine Al.step (Ob.indexV Aa.free (Has.new 0 13) (Has.new 1 12) (fun w1=>IX0.out w1)) ?_
   simp only[Al,Ao,List.map,Bq,List.reverse_cons,List.reverse_nil,List.nil_append,List.cons_append,List.take_succ_cons,List.take_zero,List.drop_succ_cons,List.drop_zero]
   intro wE hE
   iterate 15 (rintro _ rfl)
   simp only[Act.put,List.setIfInBounds_toArray,List.set_cons_zero,List.set_cons_succ]
   have XE:=Avp (HX.out.mono hE);have CE:=Avp (HC.out.mono hE);have BE:=Avp (HB.out.le hE)
   clear hE
   go_wp2_with ((with_reducible refine Ai (g) ?_ ?_);(next=>rfl))
   unfold Az
   refine Af (J:=g) rfl rfl rfl rfl rfl XE.out (show(Tryz.prog.info? 224).map (·.size)=some 2 by kernel_rfl) rfl (by simp[Value.oneCell']) ?_
   intro w9 hx9 hu9
   have X9:=Avp hx9;have U9:=Avp hu9
   clear hx9 hu9
   have gl:w.heap.size<=g:=by have:=EG.out;have:=B2.out.size;omega
   have B9:=Avp (Ae BE.out (U9.out.below gl))
   have C9:=Avp (H.out.mono B9.out)
   go_wp2
   go_roundw
   case rel=>exact⟨1,rfl,Nat.le_refl _,B9.out,C9.out,r,n+1,X9.out,fun _=>⟨rfl,rfl⟩⟩
   case measure=>simp[intOf]
  | succ k=>
   have hk0:k=0:=by omega
   subst hk0
   obtain⟨rfl,rfl⟩:=hab rfl
   clear hab
   go_wp2
   refine bodyPost_ret (v:=.tuple #[.slice (some ⟨g,0,none⟩) 1 1,.int .i64 0]) (by simp[results,Tryz.results199,go_sem]) rfl ?_
   exact⟨_,rfl,HB.out,g,rfl,by have:=EG.out;have:=B2.out.size;omega,HX.out.cell 0 rfl,HX.out.cell 1 rfl⟩
theorem Ask {w:World} {C:Nat} {r n:Int} (h:Kh w C r n) (hf:w.frozen? ⟨C,1,none⟩=false) (hr:(r==0)=false) (h0:0<=n) (h1:n<4294967295):Calls Tryz.prog 128 #[.pointer (some ⟨C,0,none⟩)] w (fun e w'=>e = .returned (.tuple #[.agg #[.int .i64 r,.int .i64 (n+1)],.int .i64 0])∧An C none w w'∧Kh w' C r (n+1)∧w'.frozen? ⟨C,1,none⟩=false):=by
 have hb0:Below w.heap.size w (w.alloc (.cells #[.int .i64 0,.int .i64 0] 224)):=by go_grown
 have X:=Avp (Bx.new w #[.int .i64 0,.int .i64 0] 224)
 have F:=Avp (Aqx (h.mono hb0) hr h0 h1)
 have HB:=Avp hb0
 have H:=Avp h;have HF:=Avp hf
 have HC:=Avp (World.block_lt_of_cell? w _ h.c0)
 have hw:IntKind.i64.wrap (n+1)=n+1:=by simp[IntKind.wrap,IntKind.bits,IntKind.signed];omega
 obtain⟨N,hN⟩:∃ N,N=w.heap.size:=⟨_,rfl⟩
 have EN:=Avp hN
 rw[<-hN] at X
 clear h hf hr h0 h1 hb0
 go_enter Tryz.func128,Tryz.ntmps128
 go_wp2_with fail
 rw[<-hN]
 clear hN
 refine F.out.mono ?_
 rintro _ w1 ⟨_,rfl,hb1,g,rfl,hg,g0,g1⟩
 replace X:=Avp (X.out.mono hb1)
 replace HB:=Avp (HB.out.le hb1)
 have c0:=(H.out.mono HB.out).c0
 have c1:=(H.out.mono HB.out).c1
 have f1:w1.frozen? ⟨C,1,none⟩=false:=(HB.out.frozen (p:=⟨C,1,none⟩) HC.out).trans HF.out
 have gc:g≠C:=by rw[World.size_alloc] at hg;have:=HC.out;omega
 have nc:C<N:=by have:=EN.out;have:=HC.out;omega
 have uc:=Iw (w:=w1) C 1 (.int .i64 (n+1))
 have XC:=Avp (uc.bx X.out (by omega))
 have UC:=Avp uc
 clear hb1 F hg uc
 go_wp2_with ((with_reducible refine Ai (N) ?_ ?_);(next=>rfl))
 unfold Az
 refine Af (J:=N) rfl rfl rfl rfl rfl XC.out (show(Tryz.prog.info? 224).map (·.size)=some 2 by kernel_rfl) rfl (by simp[Value.oneCell']) ?_
 intro w9 hx9 hu9
 have X9:=Avp hx9;have U9:=Avp hu9
 clear hx9 hu9
 go_wp2
 refine bodyPost_ret (v:=.tuple #[.agg #[.int .i64 r,.int .i64 (n+1)],.int .i64 0]) ?_ rfl ?_
 ·exact Ah Tryz.results128 rfl rfl X9.out Tryz.underlying224 rfl (show(Tryz.prog.info? 224).map (·.size)=some 2 by kernel_rfl)
 have en:=EN.out
 have hcl:=HC.out
 refine⟨rfl,?_,?_,?_⟩
 ·have h2:=HB.out
  exact(⟨(UC.out.os).trans h2.os,(UC.out.tape).trans h2.tape,(UC.out.output).trans h2.output,Nat.le_trans h2.size (Nat.le_of_eq UC.out.size.symm),fun j hj hn _=>(UC.out.block j hn).trans (h2.block j hj)⟩:An C none w (w1.setCell ⟨C,1,none⟩ (.int .i64 (n+1)))).le (U9.out.below (by omega))
 ·have d0:(w1.setCell ⟨C,1,none⟩ (.int .i64 (n+1))).cell? ⟨C,0,none⟩=some (.int .i64 r):=Cs (by simp) c0
  have d1:(w1.setCell ⟨C,1,none⟩ (.int .i64 (n+1))).cell? ⟨C,1,none⟩=some (.int .i64 (n+1)):=Ca c1
  exact⟨(World.cell?_of_block (a:=⟨C,0,none⟩) (U9.out.block C (by omega))).trans d0,(World.cell?_of_block (a:=⟨C,1,none⟩) (U9.out.block C (by omega))).trans d1⟩
 ·exact((World.frozen?_of_block (a:=⟨C,1,none⟩) (U9.out.block C (by omega))).trans (World.frozen?_setCell _ _ _ _)).trans f1
def kO (o:Int):Bool:=o==1||(o==2||(o==3||(o==4||(o==5||(o==6||o==7)))))
def oO (o:Int):Bool:=o==6||o==7
def iO (o:Int):Bool:=o==1||(o==2||(o==3||o==6))
def qO (o:Int):Bool:=o==1||o==2
def dO (o:Int):Bool:=o==8
def isO (o:Int):Bool:=kO o||(o==8||(o==9||(o==10||o==11)))
abbrev Dc (a b c d e:Bool):Value:=.agg #[.bool a,.bool b,.bool c,.bool d,.bool e]
theorem Py (o:Int):o=1∨o=2∨o=3∨o=4∨o=5∨o=6∨o=7∨o=8∨o=9∨o=10∨o=11∨(isO o=false):=by
 unfold isO kO
 by_cases h:o=1∨o=2∨o=3∨o=4∨o=5∨o=6∨o=7∨o=8∨o=9∨o=10∨o=11
 ·omega
 ·simp only[not_or] at h
  obtain⟨h1,h2,h3,h4,h5,h6,h7,h8,h9,h10,h11⟩:=h
  simp[h1,h2,h3,h4,h5,h6,h7,h8,h9,h10,h11]
theorem Nl {o:Int} (h:isO o=false):¬o=1∧¬o=2∧¬o=3∧¬o=4∧¬o=5∧¬o=6∧¬o=7∧¬o=8∧¬o=9∧¬o=10∧¬o=11:=by
 unfold isO kO at h
 simp only[Bool.or_eq_false_iff,beq_eq_false_iff_ne] at h
 obtain⟨⟨h1,h2,h3,h4,h5,h6,h7⟩,h8,h9,h10,h11⟩:=h
 exact⟨h1,h2,h3,h4,h5,h6,h7,h8,h9,h10,h11⟩
theorem Adv (w:World):Calls Tryz.prog 183 #[.int .i64 1] w (Ret w (Is (.tuple #[Dc true false true true false,.bool true]))):=by
 go_enter Tryz.func183,Tryz.ntmps183
 go_wp2
 refine bodyPost_ret (v:=.tuple #[Dc true false true true false,.bool true]) ?_ rfl ?_
 ·exact Ah Tryz.results183 rfl rfl (Bx.new w #[.bool true,.bool false,.bool true,.bool true,.bool false] 283) Tryz.underlying283 rfl (show(Tryz.prog.info? 283).map (·.size)=some 5 by kernel_rfl)
 exact⟨_,rfl,by go_grown,rfl⟩
theorem Acu (w:World):Calls Tryz.prog 183 #[.int .i64 2] w (Ret w (Is (.tuple #[Dc true false true true false,.bool true]))):=by
 go_enter Tryz.func183,Tryz.ntmps183
 go_wp2
 refine bodyPost_ret (v:=.tuple #[Dc true false true true false,.bool true]) ?_ rfl ?_
 ·exact Ah Tryz.results183 rfl rfl (Bx.new w #[.bool true,.bool false,.bool true,.bool true,.bool false] 283) Tryz.underlying283 rfl (show(Tryz.prog.info? 283).map (·.size)=some 5 by kernel_rfl)
 exact⟨_,rfl,by go_grown,rfl⟩
theorem Add (w:World):Calls Tryz.prog 183 #[.int .i64 3] w (Ret w (Is (.tuple #[Dc true false true false false,.bool true]))):=by
 go_enter Tryz.func183,Tryz.ntmps183
 go_wp2
 refine bodyPost_ret (v:=.tuple #[Dc true false true false false,.bool true]) ?_ rfl ?_
 ·exact Ah Tryz.results183 rfl rfl (Bx.new w #[.bool true,.bool false,.bool true,.bool false,.bool false] 283) Tryz.underlying283 rfl (show(Tryz.prog.info? 283).map (·.size)=some 5 by kernel_rfl)
 exact⟨_,rfl,by go_grown,rfl⟩
theorem Ac2 (w:World):Calls Tryz.prog 183 #[.int .i64 4] w (Ret w (Is (.tuple #[Dc true false false false false,.bool true]))):=by
 go_enter Tryz.func183,Tryz.ntmps183
 go_wp2
 refine bodyPost_ret (v:=.tuple #[Dc true false false false false,.bool true]) ?_ rfl ?_
 ·exact Ah Tryz.results183 rfl rfl (Bx.new w #[.bool true,.bool false,.bool false,.bool false,.bool false] 283) Tryz.underlying283 rfl (show(Tryz.prog.info? 283).map (·.size)=some 5 by kernel_rfl)
 exact⟨_,rfl,by go_grown,rfl⟩
theorem Ac0 (w:World):Calls Tryz.prog 183 #[.int .i64 5] w (Ret w (Is (.tuple #[Dc true false false false false,.bool true]))):=by
 go_enter Tryz.func183,Tryz.ntmps183
 go_wp2
 refine bodyPost_ret (v:=.tuple #[Dc true false false false false,.bool true]) ?_ rfl ?_
 ·exact Ah Tryz.results183 rfl rfl (Bx.new w #[.bool true,.bool false,.bool false,.bool false,.bool false] 283) Tryz.underlying283 rfl (show(Tryz.prog.info? 283).map (·.size)=some 5 by kernel_rfl)
 exact⟨_,rfl,by go_grown,rfl⟩
theorem Acw (w:World):Calls Tryz.prog 183 #[.int .i64 6] w (Ret w (Is (.tuple #[Dc true true true false false,.bool true]))):=by
 go_enter Tryz.func183,Tryz.ntmps183
 go_wp2
 refine bodyPost_ret (v:=.tuple #[Dc true true true false false,.bool true]) ?_ rfl ?_
 ·exact Ah Tryz.results183 rfl rfl (Bx.new w #[.bool true,.bool true,.bool true,.bool false,.bool false] 283) Tryz.underlying283 rfl (show(Tryz.prog.info? 283).map (·.size)=some 5 by kernel_rfl)
 exact⟨_,rfl,by go_grown,rfl⟩
theorem Adr (w:World):Calls Tryz.prog 183 #[.int .i64 7] w (Ret w (Is (.tuple #[Dc true true false false false,.bool true]))):=by
 go_enter Tryz.func183,Tryz.ntmps183
 go_wp2
 refine bodyPost_ret (v:=.tuple #[Dc true true false false false,.bool true]) ?_ rfl ?_
 ·exact Ah Tryz.results183 rfl rfl (Bx.new w #[.bool true,.bool true,.bool false,.bool false,.bool false] 283) Tryz.underlying283 rfl (show(Tryz.prog.info? 283).map (·.size)=some 5 by kernel_rfl)
 exact⟨_,rfl,by go_grown,rfl⟩
theorem Adw (w:World):Calls Tryz.prog 183 #[.int .i64 8] w (Ret w (Is (.tuple #[Dc false false false false true,.bool true]))):=by
 go_enter Tryz.func183,Tryz.ntmps183
 go_wp2
 refine bodyPost_ret (v:=.tuple #[Dc false false false false true,.bool true]) ?_ rfl ?_
 ·exact Ah Tryz.results183 rfl rfl (Bx.new w #[.bool false,.bool false,.bool false,.bool false,.bool true] 283) Tryz.underlying283 rfl (show(Tryz.prog.info? 283).map (·.size)=some 5 by kernel_rfl)
 exact⟨_,rfl,by go_grown,rfl⟩
theorem Am4 (w:World):Calls Tryz.prog 183 #[.int .i64 9] w (Ret w (Is (.tuple #[Dc false false false false false,.bool true]))):=by
 go_enter Tryz.func183,Tryz.ntmps183
 go_wp2
 refine bodyPost_ret (v:=.tuple #[Dc false false false false false,.bool true]) ?_ rfl ?_
 ·exact Ah Tryz.results183 rfl rfl (Bx.new w #[.bool false,.bool false,.bool false,.bool false,.bool false] 283) Tryz.underlying283 rfl (show(Tryz.prog.info? 283).map (·.size)=some 5 by kernel_rfl)
 exact⟨_,rfl,by go_grown,rfl⟩
theorem Xd (w:World):Calls Tryz.prog 183 #[.int .i64 10] w (Ret w (Is (.tuple #[Dc false false false false false,.bool true]))):=by
 go_enter Tryz.func183,Tryz.ntmps183
 go_wp2
 refine bodyPost_ret (v:=.tuple #[Dc false false false false false,.bool true]) ?_ rfl ?_
 ·exact Ah Tryz.results183 rfl rfl (Bx.new w #[.bool false,.bool false,.bool false,.bool false,.bool false] 283) Tryz.underlying283 rfl (show(Tryz.prog.info? 283).map (·.size)=some 5 by kernel_rfl)
 exact⟨_,rfl,by go_grown,rfl⟩
theorem Yh (w:World):Calls Tryz.prog 183 #[.int .i64 11] w (Ret w (Is (.tuple #[Dc false false false false false,.bool true]))):=by
 go_enter Tryz.func183,Tryz.ntmps183
 go_wp2
 refine bodyPost_ret (v:=.tuple #[Dc false false false false false,.bool true]) ?_ rfl ?_
 ·exact Ah Tryz.results183 rfl rfl (Bx.new w #[.bool false,.bool false,.bool false,.bool false,.bool false] 283) Tryz.underlying283 rfl (show(Tryz.prog.info? 283).map (·.size)=some 5 by kernel_rfl)
 exact⟨_,rfl,by go_grown,rfl⟩
theorem Aiy (o:Int) (h:isO o=false) (w:World):Calls Tryz.prog 183 #[.int .i64 o] w (Ret w (Is (.tuple #[Dc false false false false false,.bool false]))):=by
 obtain⟨h1,h2,h3,h4,h5,h6,h7,h8,h9,h10,h11⟩:=Nl h
 clear h
 go_enter Tryz.func183,Tryz.ntmps183
 go_wp2
 refine bodyPost_ret (v:=.tuple #[Dc false false false false false,.bool false]) ?_ rfl ?_
 ·exact Ah Tryz.results183 rfl rfl (Bx.new w #[.bool false,.bool false,.bool false,.bool false,.bool false] 283) Tryz.underlying283 rfl (show(Tryz.prog.info? 283).map (·.size)=some 5 by kernel_rfl)
 exact⟨_,rfl,by go_grown,rfl⟩
theorem Xw {o:Int} (h:isO o=false):kO o=false∧oO o=false∧iO o=false∧qO o=false∧dO o=false:=by
 obtain⟨h1,h2,h3,h4,h5,h6,h7,h8,h9,h10,h11⟩:=Nl h
 simp[kO,oO,iO,qO,dO,h1,h2,h3,h4,h5,h6,h7,h8]
theorem Aqk (o:Int) (w:World):Calls Tryz.prog 183 #[.int .i64 o] w (Ret w (Is (.tuple #[Dc (kO o) (oO o) (iO o) (qO o) (dO o),.bool (isO o)]))):=by
 rcases Py o with rfl | rfl | rfl | rfl | rfl | rfl | rfl | rfl | rfl | rfl | rfl | h
 ·exact Adv w
 ·exact Acu w
 ·exact Add w
 ·exact Ac2 w
 ·exact Ac0 w
 ·exact Acw w
 ·exact Adr w
 ·exact Adw w
 ·exact Am4 w
 ·exact Xd w
 ·exact Yh w
 ·obtain⟨e1,e2,e3,e4,e5⟩:=Xw h
  rw[e1,e2,e3,e4,e5,h]
  exact Aiy o h w
def Br (c:Ce):Bool:=isO c.op&&((kO c.op||c.key==[])&&((oO c.op||c.other==[])&&((iO c.op||c.item==[])&&((qO c.op||c.qty==0)&&(dO c.op||((c.data.length:Int)==0))))))
abbrev Rv (c:Ce) (A:Option Addr) (n m:Nat):Array Value:=#[.int .i64 c.op,Ac c.key,Ac c.other,Ac c.item,.int .i64 c.qty,.slice A n m]
theorem Fg (c:Ce) (A:Option Addr) (m:Nat) (w:World):Calls Tryz.prog 118 #[Aq c A c.data.length m] w (Ret w (IsB (Br c))):=by
 obtain⟨op,key,other,item,qty,data⟩:=c
 unfold Aq Br
 simp only
 generalize data.length=n at *
 have HB:=Avp (show Below w.heap.size w (w.alloc (.cells #[.int .i64 op,Ac key,Ac other,Ac item,.int .i64 qty,.slice A n m] 25)) by go_grown)
 have F:=Avp (Aqk op (w.alloc (.cells #[.int .i64 op,Ac key,Ac other,Ac item,.int .i64 qty,.slice A n m] 25)))
 have X:=Avp (Bx.new w #[.int .i64 op,Ac key,Ac other,Ac item,.int .i64 qty,.slice A n m] 25)
 obtain⟨N,hN⟩:∃ N,N=w.heap.size:=⟨_,rfl⟩
 rw[<-hN] at X
 generalize kO op=a at *
 generalize oO op=b at *
 generalize iO op=c at *
 generalize qO op=d at *
 generalize dO op=e at *
 generalize isO op=i at *
 go_enter Tryz.func118,Tryz.ntmps118
 go_wp2_with fail
 rw[<-hN]
 clear hN
 refine F.out.mono ?_
 rintro _ w1 ⟨_,rfl,hb1,rfl⟩
 have X1:=Avp (X.out.mono hb1)
 have B1:=Avp (HB.out.le hb1)
 have q1:=X1.out.cell 1 rfl;have q2:=X1.out.cell 2 rfl;have q3:=X1.out.cell 3 rfl;have q4:=X1.out.cell 4 rfl;have q5:=X1.out.cell 5 rfl
 have hNl:=X1.out.lt
 clear hb1 F X
 cases i with
 | false=>
  go_wp2
  go_ret
  exact Ay rfl (B1.out.le (by go_grown))
 | true=>
  go_wp2
  all_goals go_ret
  all_goals exact Ay (by clear B1 X1 HB;simp_all) (B1.out.le (by go_grown))
theorem Am1 (w:World):Calls Tryz.prog 220 #[.int .u64 1,.int .u64 0] w (Ret w (Is (.tuple #[.int .u64 0,.int .u64 0]))):=by
 go_enter Tryz.func220,Tryz.ntmps220
 go_wp2
 refine bodyPost_ret (v:=.tuple #[.int .u64 0,.int .u64 0]) (by simp[results,Tryz.results220,go_sem];first | decide +kernel | (constructor <;> decide +kernel)) rfl ?_
 exact⟨_,rfl,Below.refl _ _,rfl⟩
theorem Aud (w:World):Calls Tryz.prog 140 #[.int .u64 1,.int .u64 0] w (Ret w (Is (.tuple #[.int .u64 0,.int .u64 0]))):=by
 have F:=Avp (fun w1=>Am1 w1)
 go_enter Tryz.func140,Tryz.ntmps140
 go_wp2_with fail
 refine(F.out _).mono ?_
 rintro _ w1 ⟨_,rfl,hb1,rfl⟩
 have B1:=Avp hb1
 clear hb1 F
 go_wp2
 refine bodyPost_ret (v:=.tuple #[.int .u64 0,.int .u64 0]) (by simp[results,Tryz.results140,go_sem]) rfl ?_
 exact⟨_,rfl,B1.out,rfl⟩
theorem Ak9 (w:World):Calls Tryz.prog 220 #[.int .u64 1,.int .u64 1] w (Ret w (Is (.tuple #[.int .u64 0,.int .u64 1]))):=by
 go_enter Tryz.func220,Tryz.ntmps220
 go_wp2
 refine bodyPost_ret (v:=.tuple #[.int .u64 0,.int .u64 1]) (by simp[results,Tryz.results220,go_sem];first | decide +kernel | (constructor <;> decide +kernel)) rfl ?_
 exact⟨_,rfl,Below.refl _ _,rfl⟩
theorem As8 (w:World):Calls Tryz.prog 140 #[.int .u64 1,.int .u64 1] w (Ret w (Is (.tuple #[.int .u64 0,.int .u64 1]))):=by
 have F:=Avp (fun w1=>Ak9 w1)
 go_enter Tryz.func140,Tryz.ntmps140
 go_wp2_with fail
 refine(F.out _).mono ?_
 rintro _ w1 ⟨_,rfl,hb1,rfl⟩
 have B1:=Avp hb1
 clear hb1 F
 go_wp2
 refine bodyPost_ret (v:=.tuple #[.int .u64 0,.int .u64 1]) (by simp[results,Tryz.results140,go_sem]) rfl ?_
 exact⟨_,rfl,B1.out,rfl⟩
theorem Aln (w:World):Calls Tryz.prog 220 #[.int .u64 1,.int .u64 2] w (Ret w (Is (.tuple #[.int .u64 0,.int .u64 2]))):=by
 go_enter Tryz.func220,Tryz.ntmps220
 go_wp2
 refine bodyPost_ret (v:=.tuple #[.int .u64 0,.int .u64 2]) (by simp[results,Tryz.results220,go_sem];first | decide +kernel | (constructor <;> decide +kernel)) rfl ?_
 exact⟨_,rfl,Below.refl _ _,rfl⟩
theorem Atm (w:World):Calls Tryz.prog 140 #[.int .u64 1,.int .u64 2] w (Ret w (Is (.tuple #[.int .u64 0,.int .u64 2]))):=by
 have F:=Avp (fun w1=>Aln w1)
 go_enter Tryz.func140,Tryz.ntmps140
 go_wp2_with fail
 refine(F.out _).mono ?_
 rintro _ w1 ⟨_,rfl,hb1,rfl⟩
 have B1:=Avp hb1
 clear hb1 F
 go_wp2
 refine bodyPost_ret (v:=.tuple #[.int .u64 0,.int .u64 2]) (by simp[results,Tryz.results140,go_sem]) rfl ?_
 exact⟨_,rfl,B1.out,rfl⟩
theorem Wd (b:Nat) (hb:b<=2) (w:World):Calls Tryz.prog 140 #[.int .u64 1,.int .u64 (b:Int)] w (Ret w (Is (.tuple #[.int .u64 0,.int .u64 (b:Int)]))):=by
 have:b=0∨b=1∨b=2:=by omega
 rcases this with rfl | rfl | rfl
 ·exact Aud w
 ·exact As8 w
 ·exact Atm w
theorem Er:Inf Tryz.prog 50 encI 8:=by
 obtain⟨i,h1,h2,h3,h4⟩:=info_parts (P:=Tryz.prog) (show(Tryz.prog.info? 50).map (fun i=>(i.zero,i.size,i.bytes))=some (some (.int .i64 0),1,8) by kernel_rfl)
 exact⟨⟨i,_,h1,h2,h3,h4,rfl⟩,by decide,by decide⟩
abbrev Xm (w:World) (B r n:Nat) (l:List Int):Prop:=Ag encI 50 w B (.slice (some ⟨r,0,none⟩) n n) l
theorem Xm.at_ {w:World} {B r n j:Nat} {l:List Int} {x:Int} (h:Xm w B r n l) (hx:l[j]?=some x):w.cell? ⟨r,j,none⟩=some (.int .i64 x):=by
 have:=World.ownsRow.cells (v:=.slice (some ⟨r,0,none⟩) n n) h rfl _ _ (Enc.all_get (e:=encI) _ _ _ hx 0 (.int .i64 x) rfl)
 rw[Bz] at this
 simpa [encI] using this
theorem Vt {w:World} {B r n j dl dc sl sc b o:Nat} {l:List Int} {x:Int} (ho:Xm w B r n l) (hj:j<n) (hd:Nat.min sl dl=1) (hc:w.cell? ⟨b,o,none⟩=some (.int .i64 x)) (ty:TypeId) :
  (Builtin.copy_ #[32,32] ty #[.slice (some ⟨r,j,none⟩) dl dc,.slice (some ⟨b,o,none⟩) sl sc]).run Tryz.prog w = .ok (.int .i64 1) (w.setCells r j [.int .i64 x]):=by
 have hl:l.length=n:=(Ag.lenEq ho).symm
 obtain⟨y,hy⟩:∃ y,l[j]?=some y:=⟨_,List.getElem?_eq_getElem (by omega)⟩
 have hcell:=Xm.at_ ho hy
 have:=run_copy_cells (P:=Tryz.prog) w 32 32 ty 50 r j dl dc ⟨b,o,none⟩ sl sc [.int .i64 x] Tryz.underlying32 (show(Tryz.prog.info? 50).map (·.size)=some 1 by kernel_rfl) hd.symm
  (fun i v hv=>by
   have hi:i=0:=by have:=(List.getElem?_eq_some_iff.1 hv).1;simp at this;exact this
   subst hi
   simp at hv
   subst hv
   rw[Bz];exact hc)
  (fun i hi=>by
   have hi0:i=0:=by simp at hi;exact hi
   subst hi0
   rw[Nat.add_zero,hcell];rfl)
  (fun i hi=>by
   have hi0:i=0:=by simp at hi;exact hi
   subst hi0
   rw[Nat.add_zero];exact Ag.frozen ho _) (fun v hv=>by simp at hv;subst hv;rfl)
 exact this
theorem Akj {w:World} {d a:Option Addr} {dl dc sl sc:Nat} (hn:Nat.min sl dl=0) (ty:TypeId) :
  (Builtin.copy_ #[32,32] ty #[.slice d dl dc,.slice a sl sc]).run Tryz.prog w = .ok (.int .i64 0) w:=
 run_copy_none (P:=Tryz.prog) w 32 32 ty 50 d a dl dc sl sc Tryz.underlying32 (show(Tryz.prog.info? 50).map (·.size)=some 1 by kernel_rfl) hn
theorem Aej {w:World} {A:Option Addr} {n c k:Nat} (h:k<=c):(Instr.sliceAt 32 (.slice A n c) none (some (.int .i64 (k:Int))) none).run Tryz.prog w = .ok (.slice A k c) w:=by
 have h1:(0:Int)<=(k:Int):=by omega
 have h2:(k:Int)<=(c:Int):=by omega
 simp[go_sem,h1,h2]
def Alp (A:Option Addr) (c k:Nat):Option Addr:=if c=k then A else A.map (·.add k)
theorem Z4 {w:World} {A:Option Addr} {n c k:Nat} (h:k<=n) (hc:n<=c):(Instr.sliceAt 32 (.slice A n c) (some (.int .i64 (k:Int))) none none).run Tryz.prog w = .ok (.slice (Alp A c k) (n - k) (c - k)) w:=by
 have h1:(0:Int)<=(k:Int):=by omega
 have h2:(k:Int)<=(n:Int):=by omega
 have h3:(n:Int)<=(c:Int):=by omega
 unfold Alp
 simp[go_sem,h1,h2]
section
variable {ops:List Oper} {Fs:List VT} {w0:World} {a0:Act} {i:Nat} {d:Option Tmp} {ty:TypeId} {pos:String} {after:Array Edge} {g:Option (Nat×Bool)}
end
theorem J5 {w:World} {B r n:Nat} (ho:w.ownsRow B 50 1 (.slice (some ⟨r,0,none⟩) n n) n (madeCells (Value.int .i64 0).cells (n*1)).toList):Xm w B r n (List.replicate n 0):=by
 rw[Me] at ho
 unfold Xm Ag
 rw[List.length_replicate]
 exact ho
theorem Rq {P:Program} {ops:Array Oper} {rest:List Oper} {o:Oper} {a:Act} {Q:Exit->Act->World->Prop} {v:Value} {w w':World}
  (hgd:o.guard=none) (hr:(execOp a.eval o).run P w = .ok (.value v) w') (K:wpList P ops Q rest (a.put o.dst v) w'):wpList P ops Q (o::rest) a w:=by
 refine wpList_plain hgd fun K' hK=>?_
 unfold Oper.wp
 simp[hr,Result.andThen]
 exact hK _ _ K
theorem Auw (w:World) (r:Nat):(Instr.sliceAt 32 (.slice (some ⟨r,0,none⟩) 2 2) (some (.int .i64 1)) none none).run Tryz.prog w = .ok (.slice (some ⟨r,1,none⟩) 1 1) w:=by
 have:=Z4 (w:=w) (A:=some ⟨r,0,none⟩) (n:=2) (c:=2) (k:=1) (by omega) (by omega)
 have ec:Alp (some ⟨r,0,none⟩) 2 1=some ⟨r,1,none⟩:=by unfold Alp;simp[Bz]
 rw[ec] at this
 exact this
theorem Avb (w:World) (r:Nat):(Instr.sliceAt 32 (.slice (some ⟨r,0,none⟩) 2 2) none (some (.int .i64 1)) none).run Tryz.prog w = .ok (.slice (some ⟨r,0,none⟩) 1 2) w:=
 Aej (w:=w) (A:=some ⟨r,0,none⟩) (n:=2) (c:=2) (k:=1) (by omega)
theorem Wt {w:World} {b:Nat} {x:Int} (h:w.cell? ⟨b,0,none⟩=some (.int .i64 x)):Calls Tryz.prog 84 #[.slice (some ⟨b,0,none⟩) 1 1,.int .i64 0] w (Ret w (J8 (List.replicate 0 x))):=by
 have CN:=Avp (fun(w:World) (r:Nat)=>Akj (w:=w) (d:=some ⟨r,0,none⟩) (a:=some ⟨b,0,none⟩) (dl:=0) (dc:=0) (sl:=1) (sc:=1) rfl)
 obtain⟨i,hi,hz,hsz,hby⟩:=info_parts (P:=Tryz.prog) (show(Tryz.prog.info? 50).map (fun i=>(i.zero,i.size,i.bytes))=some (some (.int .i64 0),1,8) by kernel_rfl)
 have HI:=Avp hi;have HZ:=Avp hz;have HS:=Avp hsz;have HY:=Avp hby
 have M:=Avp (Wd 0 (by omega))
 have HC:=Avp h
 clear hi hz hsz hby h
 go_enter Tryz.func84,Tryz.ntmps84
 go_wp2_with fail
 refine(M.out _).mono ?_
 rintro _ w1 ⟨_,rfl,hb1,rfl⟩
 have B1:=Avp hb1
 clear hb1 M
 go_wp2_with (first | (at_make;refine Az.go ?_) | fail)
 unfold Az
 refine wpList_make_full w1 rfl _ _ 32 rfl w.heap.size 50 i _ 1 Tryz.underlying32 HI.out HZ.out HS.out .i64 .i64 0 0 0 rfl rfl rfl rfl (by rw[HY.out];omega) (by unfold maxLen;omega) B1.out.size ?_
 intro w6 ho hg
 have HO:=Avp (J5 ho)
 have B6:=Avp (show Below w.heap.size w w6 from B1.out.grown hg B1.out.size (fun q hq=>nomatch hq))
 have cn:=CN.out w6 w1.heap.size
 clear ho hg
 go_wp2
 refine wp_loop_rounds 1 ?_
 rw[rounds_succ]
 go_wp2
 go_ret
 exact⟨_,rfl,B6.out,_,_,_,rfl,⟨rfl,Nat.le_refl _,Nat.zero_le _,(fun e=>nomatch e),fun i x hi=>by simp at hi⟩⟩
theorem Z5 {w:World} {b:Nat} {x:Int} (h:w.cell? ⟨b,0,none⟩=some (.int .i64 x)):Calls Tryz.prog 84 #[.slice (some ⟨b,0,none⟩) 1 1,.int .i64 1] w (Ret w (J8 (List.replicate 1 x))):=by
 obtain⟨i,hi,hz,hsz,hby⟩:=info_parts (P:=Tryz.prog) (show(Tryz.prog.info? 50).map (fun i=>(i.zero,i.size,i.bytes))=some (some (.int .i64 0),1,8) by kernel_rfl)
 have HI:=Avp hi;have HZ:=Avp hz;have HS:=Avp hsz;have HY:=Avp hby
 have M:=Avp (Wd 1 (by omega))
 have HC:=Avp h
 clear hi hz hsz hby h
 go_enter Tryz.func84,Tryz.ntmps84
 go_wp2_with fail
 refine(M.out _).mono ?_
 rintro _ w1 ⟨_,rfl,hb1,rfl⟩
 have B1:=Avp hb1
 clear hb1 M
 go_wp2_with (first | (at_make;refine Az.go ?_) | fail)
 unfold Az
 refine wpList_make_full w1 rfl _ _ 32 rfl w.heap.size 50 i _ 1 Tryz.underlying32 HI.out HZ.out HS.out .i64 .i64 1 1 1 rfl rfl rfl rfl (by rw[HY.out];omega) (by unfold maxLen;omega) B1.out.size ?_
 intro w6 ho hg
 have HO:=Avp (J5 ho)
 have B6:=Avp (show Below w.heap.size w w6 from B1.out.grown hg B1.out.size (fun q hq=>nomatch hq))
 have C6:=Avp (Ad B6.out HC.out)
 have cp:=fun ty=>Vt (j:=0) (dl:=1) (dc:=1) (sl:=1) (sc:=1) HO.out (by omega) rfl C6.out ty
 clear ho hg
 go_wp2
 have S1:=Avp (Ag.setEl HO.out (k:=0) (by simp) x)
 have B7:=Avp (Ae B6.out (S1.out.2.below B1.out.size))
 refine wp_loop_rounds 1 ?_
 rw[rounds_succ]
 go_wp2
 go_ret
 obtain⟨A9,c9,e9,s9⟩:=Ag.sl S1.out.1
 exact⟨_,rfl,B7.out,A9,_,c9,e9,s9⟩
theorem Yt {w:World} {b:Nat} {x:Int} (h:w.cell? ⟨b,0,none⟩=some (.int .i64 x)):Calls Tryz.prog 84 #[.slice (some ⟨b,0,none⟩) 1 1,.int .i64 2] w (Ret w (J8 (List.replicate 2 x))):=by
 obtain⟨i,hi,hz,hsz,hby⟩:=info_parts (P:=Tryz.prog) (show(Tryz.prog.info? 50).map (fun i=>(i.zero,i.size,i.bytes))=some (some (.int .i64 0),1,8) by kernel_rfl)
 have HI:=Avp hi;have HZ:=Avp hz;have HS:=Avp hsz;have HY:=Avp hby
 have M:=Avp (Wd 2 (by omega))
 have HC:=Avp h
 clear hi hz hsz hby h
 go_enter Tryz.func84,Tryz.ntmps84
 go_wp2_with fail
 refine(M.out _).mono ?_
 rintro _ w1 ⟨_,rfl,hb1,rfl⟩
 have B1:=Avp hb1
 clear hb1 M
 go_wp2_with (first | (at_make;refine Az.go ?_) | fail)
 unfold Az
 refine wpList_make_full w1 rfl _ _ 32 rfl w.heap.size 50 i _ 1 Tryz.underlying32 HI.out HZ.out HS.out .i64 .i64 2 2 2 rfl rfl rfl rfl (by rw[HY.out];omega) (by unfold maxLen;omega) B1.out.size ?_
 intro w6 ho hg
 have HO:=Avp (J5 ho)
 have B6:=Avp (show Below w.heap.size w w6 from B1.out.grown hg B1.out.size (fun q hq=>nomatch hq))
 have C6:=Avp (Ad B6.out HC.out)
 have cp:=fun ty=>Vt (j:=0) (dl:=2) (dc:=2) (sl:=1) (sc:=1) HO.out (by omega) rfl C6.out ty
 clear ho hg
 go_wp2
 have S1:=Avp (Ag.setEl HO.out (k:=0) (by simp) x)
 have B7:=Avp (Ae B6.out (S1.out.2.below B1.out.size))
 have S2:=Avp (show Xm (w6.setCells w1.heap.size 0 [.int .i64 x]) w.heap.size w1.heap.size 2 [x,0] from S1.out.1)
 have RB:=Avp B1.out.size
 obtain⟨r,hr⟩:∃ r,r=w1.heap.size:=⟨_,rfl⟩
 have B7':=Avp (show Below w.heap.size w (w6.setCells w1.heap.size 0 [.int .i64 x]) from B7.out)
 rw[<-hr] at S2 RB B7' ⊢
 clear S1 B7 HO B6 C6 cp hr HC
 generalize w6.setCells r 0 [.int .i64 x]=w7 at *
 refine wp_loop_rounds 2 ?_
 rw[rounds_succ]
 go_wp2_with fail
 refine wp_region_any mixed ?_
 refine Ap (i:=0) rfl rfl (by kernel_rfl) (fun _ _ _ h=>h) (v:=.int .i64 1) (fun w=>by simp[execOp,Act.eval]) ?_
 refine Ap (i:=1) rfl rfl (by kernel_rfl) (fun _ _ _ h=>h) (v:=.slice (some ⟨r,0,none⟩) 2 2) (fun w=>by simp[execOp,Act.eval,Act.put]) ?_
 refine Ap (i:=2) rfl rfl (by kernel_rfl) (fun _ _ _ h=>h) (v:=.int .i64 1) (fun w=>by simp[execOp,Act.eval,Act.put]) ?_
 refine Ap (i:=3) rfl rfl (by kernel_rfl) (fun _ _ _ h=>h) (v:=.slice (some ⟨r,1,none⟩) 1 1) (fun w=>by simp[execOp,Act.eval,Act.put,Auw]) ?_
 refine Ap (i:=4) rfl rfl (by kernel_rfl) (fun _ _ _ h=>h) (v:=.slice (some ⟨r,0,none⟩) 2 2) (fun w=>by simp[execOp,Act.eval,Act.put]) ?_
 refine Ap (i:=5) rfl rfl (by kernel_rfl) (fun _ _ _ h=>h) (v:=.int .i64 1) (fun w=>by simp[execOp,Act.eval,Act.put]) ?_
 refine Ap (i:=6) rfl rfl (by kernel_rfl) (fun _ _ _ h=>h) (v:=.slice (some ⟨r,0,none⟩) 1 2) (fun w=>by simp[execOp,Act.eval,Act.put,Avb]) ?_
 simp only[Act.put,List.setIfInBounds_toArray,List.set_cons_zero,List.set_cons_succ]
 refine Aoz [7,8,9] 0 (by kernel_rfl) (by kernel_rfl) (by kernel_rfl) (by kernel_rfl) ?_
 intro wE hE
 change Bq _ [] _ _ _
 simp only[Bq,List.reverse_cons,List.reverse_nil,List.nil_append,List.cons_append]
 replace hE:=Below.ofDrew hE
 have BE:=Avp hE
 have S3:=Avp (Ag.mono S2.out hE)
 have cx:=Xm.at_ S3.out (j:=0) rfl
 have cp1:=fun ty=>Vt (j:=1) (dl:=1) (dc:=1) (sl:=1) (sc:=2) S3.out (by omega) rfl cx ty
 clear hE
 refine Rq (v:=.int .i64 1) (w':=wE.setCells r 1 [.int .i64 x]) rfl (by simp[execOp,Pg,resolve,invoke,builtin,Act.eval,cp1]) ?_
 change wpList _ _ _ _ (Act.put _ (some 45) (.int .i64 1)) _
 simp only[Act.put,List.setIfInBounds_toArray,List.set_cons_zero,List.set_cons_succ]
 refine Rq (v:=.int .i64 2) (w':=wE.setCells r 1 [.int .i64 x]) rfl (by simp[execOp,Pg,go_sem,Act.eval];rfl) ?_
 change wpList _ _ _ _ (Act.put _ (some 46) (.int .i64 2)) _
 simp only[Act.put,List.setIfInBounds_toArray,List.set_cons_zero,List.set_cons_succ]
 refine Tc (v:=.int .i64 2) rfl rfl rfl ?_
 change wpList _ _ _ _ (Act.put _ (some 8) (.int .i64 2)) _
 refine wpList_nil ?_
 simp only[Act.put,List.setIfInBounds_toArray,List.set_cons_zero,List.set_cons_succ]
 have S4:=Avp (Ag.setEl S3.out (k:=1) (by simp) x)
 have B8:=Avp (Ae (B7'.out.le BE.out) (S4.out.2.below RB.out))
 clear S2 S3
 go_wp2
 rw[rounds_succ]
 go_wp2
 go_ret
 obtain⟨A9,c9,e9,s9⟩:=Ag.sl S4.out.1
 exact⟨_,rfl,B8.out,A9,_,c9,e9,s9⟩
section
variable {P:Program} {ops:List Oper} {Fs:List VT} {w0:World} {a0:Act} {i:Nat} {d:Option Tmp} {ty:TypeId} {pos:String} {after:Array Edge} {g:Option (Nat×Bool)}
end
theorem An3 {w0 w:World} {b o:Nat} {e:EnE} (hb:Below w0.heap.size w0 w) (h0:w0.cell? ⟨b,o,none⟩=some (Ac e.k)) (h1:w0.cell? ⟨b,o+1,none⟩=some (.slice e.p.A e.p.n e.p.ca)) (h2:w0.cell? ⟨b,o+2,none⟩=some (.slice e.p.B e.p.m e.p.cb)) (h3:w0.cell? ⟨b,o+3,none⟩=some (.slice e.p.C e.p.k e.p.cc)):(Instr.loadAt 143 (.pointer (some ⟨b,o,none⟩))).run Tryz.prog w = .ok (enV e) w:=by
 have c0:=Ad hb h0;have c1:=Ad hb h1;have c2:=Ad hb h2;have c3:=Ad hb h3
 simp[go_sem,c0,c1,c2,c3]
theorem Cb.uncons {D:Nat->Prop} {w:World} {A:Option Addr} {n c:Nat} {x:EnS} {t:List EnS} (h:Cb D w A n c (x::t)):∃ (b o m c':Nat) (e:EnE),A=some ⟨b,o,none⟩∧n=m+1∧e.s=x∧Jj D w e∧
  w.cell? ⟨b,o,none⟩=some (Ac e.k)∧w.cell? ⟨b,o+1,none⟩=some (.slice e.p.A e.p.n e.p.ca)∧w.cell? ⟨b,o+2,none⟩=some (.slice e.p.B e.p.m e.p.cb)∧w.cell? ⟨b,o+3,none⟩=some (.slice e.p.C e.p.k e.p.cc)∧
  Cb D w (Fk 4 A c 1) m c' t∧∀ w1,(Instr.sliceAt 118 (.slice A n c) (some (.int .i64 1)) none none).run Tryz.prog w1 = .ok (.slice (Fk 4 A c 1) m c') w1:=by
 have hn:=h.len
 obtain⟨es,he,h1,h2,h3⟩:=h
 obtain⟨e,es',rfl⟩:∃ e es',es=e::es':=by cases es with
  | nil=>cases he
  | cons e es'=>exact⟨e,es',rfl⟩
 simp only[List.map_cons,List.cons.injEq] at he
 obtain⟨rfl,rfl⟩:=he
 simp only[List.length_cons,List.length_map] at hn
 obtain⟨b,o,m0,rfl,hlt,hm,_,c0,c1,c2,c3⟩:=h1.entry (k:=0) (by omega)
 simp only[List.getElem?_cons_zero,Option.some.injEq] at hm
 subst hm
 have hcap:=h1.cap
 have hf:=Cb.from_ (l:=(e::es').map EnE.s) ⟨e::es',rfl,h1,h2,h3⟩ (k:=1) (by omega)
 have hsl:=fun w1=>Xv (w:=w1) (A:=some ⟨b,o,none⟩) (n:=n) (c:=c) (k:=1) (by omega) hcap
 refine⟨b,o,es'.length,c - 1,e,rfl,hn,rfl,h3 e (by simp),by simpa using c0,by simpa using c1,by simpa using c2,by simpa using c3,?_,fun w1=>?_⟩
 ·rw[show n - 1=es'.length by omega] at hf
  simpa using hf
 ·have:=hsl w1
  rw[show n - 1=es'.length by omega] at this
  exact this
def Gh (B:Nat) (la lb:List EnS) (w:World) (v:Value):Prop:=if Cf la&&Cf lb then ∃ u,v = .tuple #[u,.int .i64 0]∧Jb B (la++lb) w u else v = .tuple #[.slice none 0 0,.int .i64 2]
def Apg (w:World) (D:Nat->Prop) (l:List EnS) (a u:Value) (wr:World):Prop:=∃ (A:Option Addr) (n c:Nat) (t acc:List EnS),a = .slice A n c∧Cb D w A n c t∧Gu wr w.heap.size u acc∧acc++t=l∧Below w.heap.size w wr
theorem Apu {A:Option Addr} {n c:Nat} (hn:n<=c) (w:World):Calls Tryz.prog 280 #[.slice A n c] w (Ret w (Is (.slice A n n))):=by
 have h1:(n:Int)<=(c:Int):=by omega
 go_enter Tryz.func280,Tryz.ntmps280
 go_wp2
 go_ret
 exact⟨_,rfl,Below.refl _ _,rfl⟩
theorem Cb.clip {D:Nat->Prop} {w:World} {A:Option Addr} {n c:Nat} {l:List EnS} (h:Cb D w A n c l):Cb D w A n n l:=by
 obtain⟨es,h1,h2,h3,h4⟩:=h
 have hm:=h2.max;have hc:=h2.cap
 exact⟨es,h1,⟨h2.len,Nat.le_refl _,by omega,fun e=>by have:=h2.nil e;omega,h2.cell⟩,h3,h4⟩
abbrev enZ:Array Value:=#[.string ⟨#[]⟩,.slice none 0 0,.slice none 0 0,.slice none 0 0]
theorem Acy {D:Nat->Prop} {A:Option Addr} {n c:Nat} {la:List EnS} {w:World} (h:Cb D w A n c la) (hn:Bk w) (hs:la.length<=2000):Calls Tryz.prog 210 #[.slice A n c,.slice none 0 0] w (Ret w (Gh w.heap.size la [])):=by
 have F1:=Avp (Iu h hn)
 have F2:=Avp (fun w1 (hb:Below w.heap.size w w1)=>Iu (Cb.nil_ (fun _=>True) w1) (hn.mono hb))
 rw[show Cf []=true from rfl] at F2
 have H:=Avp h;have HS:=Avp hs;have NM:=Avp hn
 unfold Gh
 rw[show Cf []=true from rfl,Bool.and_true]
 clear h hs hn
 cases ho:Cf la with
 | false=>
  rw[ho] at F1
  simp only[Bool.false_eq_true,if_false]
  go_enter Tryz.func210,Tryz.ntmps210
  go_wp2_with fail
  go_step3
  go_wp2_with fail
  refine F1.out.mono ?_
  rintro _ w1 ⟨_,rfl,hb1,rfl⟩
  have B1:=Avp hb1
  clear hb1
  go_wp2
  rw[Exit.noGoto_ret]
  refine bodyPost_ret (v:=.tuple #[.slice none 0 0,.int .i64 2]) (by simp[results,Tryz.results210,go_sem]) rfl ?_
  exact⟨_,rfl,B1.out,rfl⟩
 | true=>
  rw[ho] at F1
  simp only[if_true]
  clear ho
  go_enter Tryz.func210,Tryz.ntmps210
  go_wp2_with fail
  go_step3
  go_wp2_with fail
  refine F1.out.mono ?_
  rintro _ w1 ⟨_,rfl,hb1,rfl⟩
  have B1:=Avp hb1
  clear hb1
  go_wp2_with fail
  refine(F2.out w1 B1.out).mono ?_
  rintro _ w2 ⟨_,rfl,hb2,rfl⟩
  have B2:=Avp (B1.out.le hb2)
  have H2:=Avp (H.out.mono B2.out fun _ x=>x)
  clear hb2 F1 F2
  go_wp2
  go_step3
  go_wp2
  go_loopw [0,1,6] (fun a b u wr=>Apg w D la a u wr∧b = .slice none 0 0) (fun a _ _ _=>match a with | .slice _ n _=>n | _=>0)
  case atStart=>exact⟨⟨A,n,c,la,[],rfl,H.out,Gu.nil_ _ _,rfl,B2.out⟩,rfl⟩
  case round=>
   obtain⟨⟨A',n',c',t,acc,rfl,het,hrow,hl,hb⟩,rfl⟩:=hrel
   have HB:=Avp hb;have HR:=Avp hrow;have HT:=Avp het;have HL:=Avp hl
   obtain⟨Au,cu,hu⟩:=hrow.len
   subst hu
   clear hb hrow het hl
   have hb3:Below wr.heap.size wr (wr.alloc (.cells enZ 143)):=by go_grown
   cases t with
   | nil=>
    have hn0:n'=0:=HT.out.len
    subst hn0
    have hlu:acc.length<=cu:=by
     obtain⟨es,e1,ho,_⟩:=HR.out
     obtain⟨_,_,e2,hs⟩:=Ag.sl ho
     simp only[Value.slice.injEq] at e2
     have:=hs.cap
     omega
    have hll:acc=la:=by have:=HL.out;simpa using this
    have hbg:acc.length<=2000:=by rw[hll];exact HS.out
    have E3:=Avp ((HR.out.mono hb3).isEnts (Nat.le_refl _))
    have B3:=Avp (HB.out.le hb3)
    have HLL:=Avp hll
    clear hll hb3
    go_wp2_with fail
    refine(Apu hlu _).mono ?_
    rintro _ w4 ⟨_,rfl,hb4,rfl⟩
    have B4:=Avp (B3.out.le hb4)
    obtain⟨A5,n5,c5,e5,he5⟩:=E3.out
    cases e5
    have E4:=Avp ((he5.mono hb4 (D':=fun b=>w.heap.size<=b∧b<w4.heap.size) fun b h=>⟨h.1,Nat.lt_of_lt_of_le h.2 hb4.size⟩).clip)
    clear hb4 he5
    go_wp2
    refine bodyPost_ret (v:=.tuple #[.slice Au acc.length acc.length,.int .i64 0]) (by simp[results,Tryz.results210,go_sem]) rfl ?_
    refine⟨_,rfl,B4.out,_,rfl,Au,_,_,rfl,?_⟩
    rw[List.append_nil,<-HLL.out];exact E4.out
   | cons x t=>
    obtain⟨b,o,m,c2,e,rfl,rfl,hes,hei,x0,x1,x2,x3,hrest,hsl⟩:=HT.out.uncons
    have hm2:m<=2000:=by
     have h1:=HT.out.len
     have h2:=HL.out
     have h3:=HS.out
     rw[<-h2,List.length_append] at h3
     omega
    replace hb3:=hb3.drew
    have X0:=Avp ((Bx.new wr enZ 143).mono (Below.dr _))
    obtain⟨X,hX⟩:∃ X,X=wr.heap.size:=⟨_,rfl⟩
    rw[<-hX] at X0
    have EX:=Avp hX
    have hbz:=HB.out.le hb3
    have Z0:=Avp (Ad hbz x0);have Z1:=Avp (Ad hbz x1);have Z2:=Avp (Ad hbz x2);have Z3:=Avp (Ad hbz x3)
    have SL:=Avp hsl
    have B3:=Avp (HB.out.le hb3)
    have TR:=Avp hrest;have EI:=Avp (hei.mono HB.out fun _ x=>x);have HB3:=Avp hb3
    have HES:=Avp hes
    have IX:=Avp (fun w5=>show(Instr.indexAt 118 (.slice (some ⟨b,o,none⟩) (m+1) c') (.int .i64 0)).run Tryz.prog w5 = .ok (.pointer (some ⟨b,o,none⟩)) w5 by simp[go_sem])
    clear x0 x1 x2 x3 hsl hrest hei hes hb3 hbz
    go_wp2_with fail
    rw[<-hX]
    clear hX
    refine wp_region_any mixed ?_
    change wpAny _ _ _ _ _ _ _ (World.drew (wr.alloc (.cells enZ 143)))
    generalize World.drew (wr.alloc (.cells enZ 143))=wd at *
    refine Ap (i:=0) rfl rfl (by kernel_rfl) (fun _ _ _ h=>h) (v:=.slice (some ⟨b,o,none⟩) (m+1) c') (fun w=>by simp[execOp,Act.eval]) ?_
    refine Ap (i:=1) rfl rfl (by kernel_rfl) (fun _ _ _ h=>h) (v:=.pointer (some ⟨b,o,none⟩)) (fun w=>by simp[execOp,Act.eval,Act.put,IX.out w]) ?_
    refine Ap (i:=3) rfl rfl (by kernel_rfl) (fun _ _ _ h=>h) (v:=.slice (some ⟨b,o,none⟩) (m+1) c') (fun w=>by simp[execOp,Act.eval,Act.put]) ?_
    refine Ap (i:=4) rfl rfl (by kernel_rfl) (fun _ _ _ h=>h) (v:=.slice (Fk 4 (some ⟨b,o,none⟩) c' 1) m c2) (fun w=>by simp[execOp,Act.eval,Act.put,SL.out w]) ?_
    refine Ez [2,5,6] _ _ _ _ (by kernel_rfl) (.cons rfl (.cons rfl (.cons rfl .nil))) ?_
    simp only[Act.put,List.setIfInBounds_toArray,List.set_cons_zero,List.set_cons_succ,List.getElem_toArray,List.getElem_cons_succ,List.getElem_cons_zero]
    have z0:=Z0.out;have z1:=Z1.out;have z2:=Z2.out;have z3:=Z3.out
    go_wp2_with ((with_reducible refine Ai (X) ?_ ?_);(next=>rfl))
    unfold Az
    refine Af (J:=X) rfl rfl rfl rfl rfl X0.out (show(Tryz.prog.info? 143).map (·.size)=some 4 by kernel_rfl) rfl (by simp[Value.oneCell']) ?_
    intro w9 hx9 hu9
    have X9:=Avp hx9;have U9:=Avp hu9
    clear hx9 hu9
    have en:=EX.out
    have B9:=Avp (show Below wr.heap.size wr w9 from Ae HB3.out (U9.out.below (by omega)))
    have EI9:=Avp (EI.out.mono B9.out fun _ x=>x)
    have C:=Avp (Ada EI9.out.at_.at_ EI9.out.ok.small)
    have y0:=X9.out.cell 0 rfl;have y1:=X9.out.cell 1 rfl;have y2:=X9.out.cell 2 rfl;have y3:=X9.out.cell 3 rfl
    clear z0 z1 z2 z3 en
    go_wp2_with fail
    refine C.out.mono ?_
    rintro _ w10 ⟨_,rfl,hb10,p',rfl,hp'⟩
    have B10:=Avp (B9.out.le hb10)
    have X10:=Avp (X9.out.mono hb10)
    obtain⟨x11,u11⟩:=Bx.setPart (pre:=[Ac e.k]) (old:=[.slice e.p.A e.p.n e.p.ca,.slice e.p.B e.p.m e.p.cb,.slice e.p.C e.p.k e.p.cc]) (post:=[]) X10.out [.slice p'.A p'.n p'.ca,.slice p'.B p'.m p'.cb,.slice p'.C p'.k p'.cc] rfl
    have P11:=Avp (show Ck (fun b=>w9.heap.size<=b∧b<w10.heap.size) _ p' e.c from hp'.if_.wrote u11.wrote fun b hb=>⟨by have:=hb.1;have:=X9.out.lt;omega,by simp⟩)
    have B11:=Avp (show Below wr.heap.size wr _ from Ae B10.out (u11.below (by have:=EX.out;omega)))
    have U11:=Avp u11
    have q0:=X10.out.cell 0 rfl;have q1:=X10.out.cell 1 rfl;have q2:=X10.out.cell 2 rfl;have q3:=X10.out.cell 3 rfl
    have f1:=X10.out.fr 1 (by simp);have f2:=X10.out.fr 2 (by simp);have f3:=X10.out.fr 3 (by simp)
    have L9:=Avp (show wr.heap.size<=w9.heap.size from B9.out.size)
    have SZ:=Avp (show ∀ w',(w10.setCells X [Ac e.k].length [.slice p'.A p'.n p'.ca,.slice p'.B p'.m p'.cb,.slice p'.C p'.k p'.cc])=w'->w'.heap.size=w10.heap.size from fun w' hw=>by rw[<-hw];exact u11.size)
    clear hb10 hp' x11 u11 C y0 y1 y2 y3
    have hll:acc.length+1<=1000000:=by
     have h2:=HL.out
     have h3:=HS.out
     rw[<-h2,List.length_append,List.length_cons] at h3
     omega
    have HLL:=Avp hll
    clear hll
    obtain⟨w11,hw11⟩:∃ w',w'=w10.setCells X [Ac e.k].length [.slice p'.A p'.n p'.ca,.slice p'.B p'.m p'.cb,.slice p'.C p'.k p'.cc]:=⟨_,rfl⟩
    rw[<-hw11] at P11 B11 U11
    have hb12:Below w11.heap.size w11 (w11.alloc (.cells (enC ⟨e.k,e.c,p'⟩) 143)):=by go_grown
    have S11:=Avp (show w11.heap.size=w10.heap.size from SZ.out _ hw11.symm)
    have P12:=Avp (P11.out.below hb12)
    have B12:=Avp (B11.out.le hb12)
    have SLE:=Avp (Sl.new encE w11 [⟨e.k,e.c,p'⟩] (by simp) (enC ⟨e.k,e.c,p'⟩) (by simp[Enc.all,encE]) 143)
    have R12:=Avp (HR.out.mono B12.out)
    have EN12:=Avp (show Jj (Abl w.heap.size (w11.alloc (.cells (enC ⟨e.k,e.c,p'⟩) 143)) (Value.slice Au acc.length cu).ownBlock) (w11.alloc (.cells (enC ⟨e.k,e.c,p'⟩) 143)) ⟨e.k,e.c,p'⟩ from
     ⟨P12.out.dom fun b hb=>⟨by have:=hb.1;have:=L9.out;have:=HB.out.size;omega,by have:=hb.2;have:=S11.out;have:=hb12.size;omega,fun h=>by have:=(HR.out.own b h.symm).2;have:=hb.1;have:=L9.out;omega⟩,⟨EI.out.ok.key,EI.out.ok.small⟩⟩)
    have BW:=Avp (show w.heap.size<=(w11.alloc (.cells (enC ⟨e.k,e.c,p'⟩) 143)).heap.size from Nat.le_trans HB.out.size B12.out.size)
    rw[S11.out] at SLE
    have W11:=Avp (show w11=((w10.setCell ⟨X,1,none⟩ (.slice p'.A p'.n p'.ca)).setCell ⟨X,2,none⟩ (.slice p'.B p'.m p'.cb)).setCell ⟨X,3,none⟩ (.slice p'.C p'.k p'.cc) from hw11)
    clear hb12 hw11
    go_wp2_with (first
     | (at_builtin;rw[<-W11.out];refine Jy (u:=.slice Au acc.length cu) (l:=acc) (e:=⟨e.k,e.c,p'⟩) (B:=w.heap.size) rfl rfl Tryz.underlying118 rfl rfl R12.out SLE.out EN12.out HLL.out BW.out ?_;intro u9 w12 o9 g9 _;have B13:=Avp (show Below w.heap.size w w12 from(HB.out.le B12.out).trans ((Below.refl _ _).grown g9 BW.out (fun q hq=>(R12.out.own q hq).1)));have O13:=Avp o9;clear o9 g9 q0 q1 q2 q3 f1 f2 f3)
     | fail)
    refine⟨⟨⟨_,_,_,t,acc++[x],rfl,TR.out,?_,by rw[List.append_assoc];exact HL.out,B13.out⟩,rfl⟩,by simp⟩
    have:=O13.out
    rw[show(EnE.s ⟨e.k,e.c,p'⟩)=x from HES.out] at this
    exact this
theorem Ali {D:Nat->Prop} {A:Option Addr} {n c:Nat} {la:List EnS} {w:World} (h:Cb D w A n c la) (hn:Bk w) (hs:la.length<=2000):Calls Tryz.prog 210 #[.slice none 0 0,.slice A n c] w (Ret w (Gh w.heap.size [] la)):=by
 have F1:=Avp (fun w1 (hb:Below w.heap.size w w1)=>Iu (h.mono hb fun _ x=>x) (hn.mono hb))
 have F2:=Avp (Iu (Cb.nil_ (fun _=>True) w) hn)
 rw[show Cf []=true from rfl] at F2
 have H:=Avp h;have HS:=Avp hs;have NM:=Avp hn
 unfold Gh
 rw[show Cf []=true from rfl,Bool.true_and]
 clear h hs hn
 cases ho:Cf la with
 | false=>
  rw[ho] at F1
  simp only[Bool.false_eq_true,if_false]
  go_enter Tryz.func210,Tryz.ntmps210
  go_wp2_with fail
  go_step3
  go_wp2_with fail
  refine F2.out.mono ?_
  rintro _ w1 ⟨_,rfl,hb1,rfl⟩
  have B0:=Avp hb1
  clear hb1
  go_wp2_with fail
  refine(F1.out w1 B0.out).mono ?_
  rintro _ w2 ⟨_,rfl,hb2,rfl⟩
  have B1:=Avp (B0.out.le hb2)
  clear hb2
  go_wp2
  rw[Exit.noGoto_ret]
  refine bodyPost_ret (v:=.tuple #[.slice none 0 0,.int .i64 2]) (by simp[results,Tryz.results210,go_sem]) rfl ?_
  exact⟨_,rfl,B1.out,rfl⟩
 | true=>
  rw[ho] at F1
  simp only[if_true]
  clear ho
  go_enter Tryz.func210,Tryz.ntmps210
  go_wp2_with fail
  go_step3
  go_wp2_with fail
  refine F2.out.mono ?_
  rintro _ w1 ⟨_,rfl,hb1,rfl⟩
  have B1:=Avp hb1
  clear hb1
  go_wp2_with fail
  refine(F1.out w1 B1.out).mono ?_
  rintro _ w2 ⟨_,rfl,hb2,rfl⟩
  have B2:=Avp (B1.out.le hb2)
  have H2:=Avp (H.out.mono B2.out fun _ x=>x)
  clear hb2 F1 F2
  go_wp2
  go_step3
  go_wp2
  go_loopw [0,1,6] (fun a b u wr=>Apg w D la b u wr∧a = .slice none 0 0) (fun _ a _ _=>match a with | .slice _ n _=>n | _=>0)
  case atStart=>exact⟨⟨A,n,c,la,[],rfl,H.out,Gu.nil_ _ _,rfl,B2.out⟩,rfl⟩
  case round=>
   obtain⟨⟨A',n',c',t,acc,rfl,het,hrow,hl,hb⟩,rfl⟩:=hrel
   have HB:=Avp hb;have HR:=Avp hrow;have HT:=Avp het;have HL:=Avp hl
   obtain⟨Au,cu,hu⟩:=hrow.len
   subst hu
   clear hb hrow het hl
   have hb3:Below wr.heap.size wr (wr.alloc (.cells enZ 143)):=by go_grown
   cases t with
   | nil=>
    have hn0:n'=0:=HT.out.len
    subst hn0
    have hlu:acc.length<=cu:=by
     obtain⟨es,e1,ho,_⟩:=HR.out
     obtain⟨_,_,e2,hs⟩:=Ag.sl ho
     simp only[Value.slice.injEq] at e2
     have:=hs.cap
     omega
    have hll:acc=la:=by have:=HL.out;simpa using this
    have hbg:acc.length<=2000:=by rw[hll];exact HS.out
    have E3:=Avp ((HR.out.mono hb3).isEnts (Nat.le_refl _))
    have B3:=Avp (HB.out.le hb3)
    have HLL:=Avp hll
    clear hll hb3
    go_wp2_with fail
    refine(Apu hlu _).mono ?_
    rintro _ w4 ⟨_,rfl,hb4,rfl⟩
    have B4:=Avp (B3.out.le hb4)
    obtain⟨A5,n5,c5,e5,he5⟩:=E3.out
    cases e5
    have E4:=Avp ((he5.mono hb4 (D':=fun b=>w.heap.size<=b∧b<w4.heap.size) fun b h=>⟨h.1,Nat.lt_of_lt_of_le h.2 hb4.size⟩).clip)
    clear hb4 he5
    go_wp2
    refine bodyPost_ret (v:=.tuple #[.slice Au acc.length acc.length,.int .i64 0]) (by simp[results,Tryz.results210,go_sem]) rfl ?_
    refine⟨_,rfl,B4.out,_,rfl,Au,_,_,rfl,?_⟩
    rw[<-HLL.out];exact E4.out
   | cons x t=>
    obtain⟨b,o,m,c2,e,rfl,rfl,hes,hei,x0,x1,x2,x3,hrest,hsl⟩:=HT.out.uncons
    have hm2:m<=2000:=by
     have h1:=HT.out.len
     have h2:=HL.out
     have h3:=HS.out
     rw[<-h2,List.length_append] at h3
     omega
    replace hb3:=hb3.drew
    have X0:=Avp ((Bx.new wr enZ 143).mono (Below.dr _))
    obtain⟨X,hX⟩:∃ X,X=wr.heap.size:=⟨_,rfl⟩
    rw[<-hX] at X0
    have EX:=Avp hX
    have hbz:=HB.out.le hb3
    have Z0:=Avp (Ad hbz x0);have Z1:=Avp (Ad hbz x1);have Z2:=Avp (Ad hbz x2);have Z3:=Avp (Ad hbz x3)
    have SL:=Avp hsl
    have B3:=Avp (HB.out.le hb3)
    have TR:=Avp hrest;have EI:=Avp (hei.mono HB.out fun _ x=>x);have HB3:=Avp hb3
    have HES:=Avp hes
    have IX:=Avp (fun w5=>show(Instr.indexAt 118 (.slice (some ⟨b,o,none⟩) (m+1) c') (.int .i64 0)).run Tryz.prog w5 = .ok (.pointer (some ⟨b,o,none⟩)) w5 by simp[go_sem])
    clear x0 x1 x2 x3 hsl hrest hei hes hb3 hbz
    go_wp2_with fail
    rw[<-hX]
    clear hX
    refine wp_region_any mixed ?_
    change wpAny _ _ _ _ _ _ _ (World.drew (wr.alloc (.cells enZ 143)))
    generalize World.drew (wr.alloc (.cells enZ 143))=wd at *
    refine Ap (i:=0) rfl rfl (by kernel_rfl) (fun _ _ _ h=>h) (v:=.slice (some ⟨b,o,none⟩) (m+1) c') (fun w=>by simp[execOp,Act.eval]) ?_
    refine Ap (i:=1) rfl rfl (by kernel_rfl) (fun _ _ _ h=>h) (v:=.pointer (some ⟨b,o,none⟩)) (fun w=>by simp[execOp,Act.eval,Act.put,IX.out w]) ?_
    refine Ap (i:=3) rfl rfl (by kernel_rfl) (fun _ _ _ h=>h) (v:=.slice (some ⟨b,o,none⟩) (m+1) c') (fun w=>by simp[execOp,Act.eval,Act.put]) ?_
    refine Ap (i:=4) rfl rfl (by kernel_rfl) (fun _ _ _ h=>h) (v:=.slice (Fk 4 (some ⟨b,o,none⟩) c' 1) m c2) (fun w=>by simp[execOp,Act.eval,Act.put,SL.out w]) ?_
    refine Ez [2,5,6] _ _ _ _ (by kernel_rfl) (.cons rfl (.cons rfl (.cons rfl .nil))) ?_
    simp only[Act.put,List.setIfInBounds_toArray,List.set_cons_zero,List.set_cons_succ,List.getElem_toArray,List.getElem_cons_succ,List.getElem_cons_zero]
    have z0:=Z0.out;have z1:=Z1.out;have z2:=Z2.out;have z3:=Z3.out
    go_wp2_with ((with_reducible refine Ai (X) ?_ ?_);(next=>rfl))
    unfold Az
    refine Af (J:=X) rfl rfl rfl rfl rfl X0.out (show(Tryz.prog.info? 143).map (·.size)=some 4 by kernel_rfl) rfl (by simp[Value.oneCell']) ?_
    intro w9 hx9 hu9
    have X9:=Avp hx9;have U9:=Avp hu9
    clear hx9 hu9
    have en:=EX.out
    have B9:=Avp (show Below wr.heap.size wr w9 from Ae HB3.out (U9.out.below (by omega)))
    have EI9:=Avp (EI.out.mono B9.out fun _ x=>x)
    have C:=Avp (Ada EI9.out.at_.at_ EI9.out.ok.small)
    have y0:=X9.out.cell 0 rfl;have y1:=X9.out.cell 1 rfl;have y2:=X9.out.cell 2 rfl;have y3:=X9.out.cell 3 rfl
    clear z0 z1 z2 z3 en
    go_wp2_with fail
    refine C.out.mono ?_
    rintro _ w10 ⟨_,rfl,hb10,p',rfl,hp'⟩
    have B10:=Avp (B9.out.le hb10)
    have X10:=Avp (X9.out.mono hb10)
    obtain⟨x11,u11⟩:=Bx.setPart (pre:=[Ac e.k]) (old:=[.slice e.p.A e.p.n e.p.ca,.slice e.p.B e.p.m e.p.cb,.slice e.p.C e.p.k e.p.cc]) (post:=[]) X10.out [.slice p'.A p'.n p'.ca,.slice p'.B p'.m p'.cb,.slice p'.C p'.k p'.cc] rfl
    have P11:=Avp (show Ck (fun b=>w9.heap.size<=b∧b<w10.heap.size) _ p' e.c from hp'.if_.wrote u11.wrote fun b hb=>⟨by have:=hb.1;have:=X9.out.lt;omega,by simp⟩)
    have B11:=Avp (show Below wr.heap.size wr _ from Ae B10.out (u11.below (by have:=EX.out;omega)))
    have U11:=Avp u11
    have q0:=X10.out.cell 0 rfl;have q1:=X10.out.cell 1 rfl;have q2:=X10.out.cell 2 rfl;have q3:=X10.out.cell 3 rfl
    have f1:=X10.out.fr 1 (by simp);have f2:=X10.out.fr 2 (by simp);have f3:=X10.out.fr 3 (by simp)
    have L9:=Avp (show wr.heap.size<=w9.heap.size from B9.out.size)
    have SZ:=Avp (show ∀ w',(w10.setCells X [Ac e.k].length [.slice p'.A p'.n p'.ca,.slice p'.B p'.m p'.cb,.slice p'.C p'.k p'.cc])=w'->w'.heap.size=w10.heap.size from fun w' hw=>by rw[<-hw];exact u11.size)
    clear hb10 hp' x11 u11 C y0 y1 y2 y3
    have hll:acc.length+1<=1000000:=by
     have h2:=HL.out
     have h3:=HS.out
     rw[<-h2,List.length_append,List.length_cons] at h3
     omega
    have HLL:=Avp hll
    clear hll
    obtain⟨w11,hw11⟩:∃ w',w'=w10.setCells X [Ac e.k].length [.slice p'.A p'.n p'.ca,.slice p'.B p'.m p'.cb,.slice p'.C p'.k p'.cc]:=⟨_,rfl⟩
    rw[<-hw11] at P11 B11 U11
    have hb12:Below w11.heap.size w11 (w11.alloc (.cells (enC ⟨e.k,e.c,p'⟩) 143)):=by go_grown
    have S11:=Avp (show w11.heap.size=w10.heap.size from SZ.out _ hw11.symm)
    have P12:=Avp (P11.out.below hb12)
    have B12:=Avp (B11.out.le hb12)
    have SLE:=Avp (Sl.new encE w11 [⟨e.k,e.c,p'⟩] (by simp) (enC ⟨e.k,e.c,p'⟩) (by simp[Enc.all,encE]) 143)
    have R12:=Avp (HR.out.mono B12.out)
    have EN12:=Avp (show Jj (Abl w.heap.size (w11.alloc (.cells (enC ⟨e.k,e.c,p'⟩) 143)) (Value.slice Au acc.length cu).ownBlock) (w11.alloc (.cells (enC ⟨e.k,e.c,p'⟩) 143)) ⟨e.k,e.c,p'⟩ from
     ⟨P12.out.dom fun b hb=>⟨by have:=hb.1;have:=L9.out;have:=HB.out.size;omega,by have:=hb.2;have:=S11.out;have:=hb12.size;omega,fun h=>by have:=(HR.out.own b h.symm).2;have:=hb.1;have:=L9.out;omega⟩,⟨EI.out.ok.key,EI.out.ok.small⟩⟩)
    have BW:=Avp (show w.heap.size<=(w11.alloc (.cells (enC ⟨e.k,e.c,p'⟩) 143)).heap.size from Nat.le_trans HB.out.size B12.out.size)
    rw[S11.out] at SLE
    have W11:=Avp (show w11=((w10.setCell ⟨X,1,none⟩ (.slice p'.A p'.n p'.ca)).setCell ⟨X,2,none⟩ (.slice p'.B p'.m p'.cb)).setCell ⟨X,3,none⟩ (.slice p'.C p'.k p'.cc) from hw11)
    clear hb12 hw11
    go_wp2_with (first
     | (at_builtin;rw[<-W11.out];refine Jy (u:=.slice Au acc.length cu) (l:=acc) (e:=⟨e.k,e.c,p'⟩) (B:=w.heap.size) rfl rfl Tryz.underlying118 rfl rfl R12.out SLE.out EN12.out HLL.out BW.out ?_;intro u9 w12 o9 g9 _;have B13:=Avp (show Below w.heap.size w w12 from(HB.out.le B12.out).trans ((Below.refl _ _).grown g9 BW.out (fun q hq=>(R12.out.own q hq).1)));have O13:=Avp o9;clear o9 g9 q0 q1 q2 q3 f1 f2 f3)
     | fail)
    refine⟨⟨⟨_,_,_,t,acc++[x],rfl,TR.out,?_,by rw[List.append_assoc];exact HL.out,B13.out⟩,rfl⟩,by simp⟩
    have:=O13.out
    rw[show(EnE.s ⟨e.k,e.c,p'⟩)=x from HES.out] at this
    exact this
end Go.Proofs.YthnbhjpahlceeaaGreatDoor
