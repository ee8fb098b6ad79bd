/-
  The reference: Plan.
-/
import Derived.Test.YthnbhjpahlceeaaGreatDoorTH
import Derived.Test.YthnbhjpahlceeaaGreatDoorTF
import Derived.Test.YthnbhjpahlceeaaGreatDoorTA
import Derived.Maps.RangeWalk
import Derived.Maps.OwnOps
import Derived.Maps.OwnSet
import Derived.Test.YthnbhjpahlceeaaGreatDoorTB
import Derived.Handed
import Derived.Lib.LaidU8
import Derived.KernelRfl
import Derived.Test.YthnbhjpahlceeaaGreatDoorRows
import Derived.ProofKit
import Derived.WideKeyArgs
import Derived.Deep.SlicePairs
import Derived.Lib.SmallJoins
set_option maxRecDepth 100000
set_option maxHeartbeats 8000000
set_option linter.unusedSectionVars false
set_option linter.unusedVariables false
set_option linter.unusedSimpArgs false
set_option maxRecDepth 100000
set_option maxHeartbeats 8000000
namespace Go.Proofs.YthnbhjpahlceeaaGreatDoor
open Go.RowKit
theorem Arx {w:World} (c:Ce) (A:Option Addr) (m:Nat) (s:Int) (hc:Bw c=false):Calls Tryz.prog 10 #[Aq c A c.data.length m,.int .i64 s] w (Ret w (J8 (Dp 0))):=by
 have CH:=Avp (fun w1=>Mn c A m w1)
 rw[hc] at CH
 clear hc
 obtain⟨op,key,other,item,qty,data⟩:=c
 unfold Aq at *
 simp only at *
 generalize data.length=n at *
 have X:=Avp (Bx.new w #[.int .i64 op,Ac key,Ac other,Ac item,.int .i64 qty,.slice A n m] 25)
 have B:=Avp (show Below w.heap.size w (w.alloc (.cells #[.int .i64 op,Ac key,Ac other,Ac item,.int .i64 qty,.slice A n m] 25)) by go_grown)
 have q0:=X.out.cell 0 rfl;have q1:=X.out.cell 1 rfl;have q2:=X.out.cell 2 rfl;have q3:=X.out.cell 3 rfl;have q4:=X.out.cell 4 rfl;have q5:=X.out.cell 5 rfl
 go_enter Tryz.func10,Tryz.ntmps10
 go_wp2_with fail
 refine(CH.out _).mono ?_
 rintro _ w3 ⟨_,rfl,hb3,rfl⟩
 replace X:=Avp (X.out.mono hb3);replace B:=Avp (B.out.le hb3)
 clear q0 q1 q2 q3 q4 q5
 clear hb3 CH
 clear X
 have PP:=Avp ((Ag.oneNew encI w3 (1:Int) #[.int .i64 1] rfl 50 (by decide)).low (B':=w.heap.size) B.out.size)
 replace B:=Avp (B.out.le (show Below (w3).heap.size w3 ((w3).alloc (.cells #[.int .i64 1] 50)) by go_grown))
 go_wp2_with fail
 generalize w3.alloc (.cells #[.int .i64 1] 50)=w6 at *
 refine wp_loop_rounds 1 ?_
 rw[rounds_succ]
 have hbx:Below w6.heap.size w6 (w6.alloc (.cells #[.int .i64 4] 50)):=by go_grown
 replace PP:=Avp (PP.out.mono hbx);replace B:=Avp (B.out.le hbx)
 have QQ:=Avp (Fl w6 4 50)
 clear hbx
 go_wp2_with (first
  | (at_builtin;refine Bb ?_)
  | fail)
 unfold Az
 refine Aj (B:=w.heap.size) Er rfl rfl Tryz.underlying32 rfl rfl PP.out QQ.out (by simp) B.out.size ?_
 intro v7 w7 o9 g9 hz
 clear hz
 replace B:=Avp (B.out.grown g9 B.out.size (fun q hq=>(PP.out.own q hq).1))
 replace PP:=Avp o9
 clear o9 g9 QQ
 simp only[Act.put,List.setIfInBounds_toArray,List.set_cons_zero,List.set_cons_succ]
 go_wp2
 refine wp_loop_rounds 1 ?_
 rw[rounds_succ]
 have hbx:Below w7.heap.size w7 (w7.alloc (.cells #[.int .i64 6] 50)):=by go_grown
 replace PP:=Avp (PP.out.mono hbx);replace B:=Avp (B.out.le hbx)
 have QQ:=Avp (Fl w7 6 50)
 clear hbx
 go_wp2_with (first
  | (at_builtin;refine Bb ?_)
  | fail)
 unfold Az
 refine Aj (B:=w.heap.size) Er rfl rfl Tryz.underlying32 rfl rfl PP.out QQ.out (by simp) B.out.size ?_
 intro v8 w8 o9 g9 hz
 clear hz
 replace B:=Avp (B.out.grown g9 B.out.size (fun q hq=>(PP.out.own q hq).1))
 replace PP:=Avp o9
 clear o9 g9 QQ
 simp only[Act.put,List.setIfInBounds_toArray,List.set_cons_zero,List.set_cons_succ]
 go_wp2
 go_ret
 obtain⟨A9,c9,e9,s9⟩:=Ag.sl PP.out
 exact⟨_,rfl,B.out,A9,_,c9,e9,s9⟩
theorem Are {w:World} (c:Ce) (A:Option Addr) (m k:Nat) (hk:c.key.length<=300) (ho:c.other.length<=300) (h1:1<=k) (h2:k<=1024) (hc:Bw c=true) (hz:(Jn (Cz c) k).length=0) :
  Calls Tryz.prog 10 #[Aq c A c.data.length m,.int .i64 (k:Int)] w (Ret w (J8 (Dp 0))):=by
 have CH:=Avp (fun w1=>Mn c A m w1)
 have KY:=Avp (fun(w1:World)=>Ag0 (w:=w1) c A m (by omega) (by omega))
 have HL:=Avp (He c (by omega) (by omega));have KSL:=Avp (Fw c)
 rw[hc] at CH
 generalize Cz c=ks at *
 have K1:=Avp h1;have K2:=Avp h2;have HZ:=Avp hz
 clear hk ho hc hz h1 h2
 obtain⟨op,key,other,item,qty,data⟩:=c
 unfold Aq at *
 simp only at *
 generalize data.length=n at *
 have X:=Avp (Bx.new w #[.int .i64 op,Ac key,Ac other,Ac item,.int .i64 qty,.slice A n m] 25)
 have B:=Avp (show Below w.heap.size w (w.alloc (.cells #[.int .i64 op,Ac key,Ac other,Ac item,.int .i64 qty,.slice A n m] 25)) by go_grown)
 have q0:=X.out.cell 0 rfl;have q1:=X.out.cell 1 rfl;have q2:=X.out.cell 2 rfl;have q3:=X.out.cell 3 rfl;have q4:=X.out.cell 4 rfl;have q5:=X.out.cell 5 rfl
 go_enter Tryz.func10,Tryz.ntmps10
 go_wp2_with fail
 refine(CH.out _).mono ?_
 rintro _ w3 ⟨_,rfl,hb3,rfl⟩
 replace X:=Avp (X.out.mono hb3);replace B:=Avp (B.out.le hb3)
 clear q0 q1 q2 q3 q4 q5
 clear hb3 CH
 have q0:=X.out.cell 0 rfl;have q1:=X.out.cell 1 rfl;have q2:=X.out.cell 2 rfl;have q3:=X.out.cell 3 rfl;have q4:=X.out.cell 4 rfl;have q5:=X.out.cell 5 rfl
 go_wp2_with fail
 refine(KY.out _).mono ?_
 rintro _ w4 ⟨_,rfl,hb4,hk4⟩
 obtain⟨A4,c4,rfl,s4⟩:=Ag.sl hk4
 have O:=Avp (Ab1 s4 (by have:=KSL.out;omega) HL.out K1.out K2.out)
 replace B:=Avp (B.out.le hb4)
 clear hb4 KY hk4 s4 q0 q1 q2 q3 q4 q5 X
 go_wp2_with fail
 refine O.out.mono ?_
 rintro _ w5 ⟨_,rfl,hb5,A5,n5,c5,rfl,s5⟩
 replace B:=Avp (B.out.le hb5)
 obtain rfl:n5=0:=s5.len.trans HZ.out
 clear hb5 s5 O K1 K2 HL HZ KSL
 have PP:=Avp ((Ag.oneNew encI w5 (1:Int) #[.int .i64 1] rfl 50 (by decide)).low (B':=w.heap.size) B.out.size)
 replace B:=Avp (B.out.le (show Below (w5).heap.size w5 ((w5).alloc (.cells #[.int .i64 1] 50)) by go_grown))
 go_wp2_with fail
 generalize w5.alloc (.cells #[.int .i64 1] 50)=w6 at *
 refine wp_loop_rounds 1 ?_
 rw[rounds_succ]
 have hbx:Below w6.heap.size w6 (w6.alloc (.cells #[.int .i64 4] 50)):=by go_grown
 replace PP:=Avp (PP.out.mono hbx);replace B:=Avp (B.out.le hbx)
 have QQ:=Avp (Fl w6 4 50)
 clear hbx
 go_wp2_with (first
  | (at_builtin;refine Bb ?_)
  | fail)
 unfold Az
 refine Aj (B:=w.heap.size) Er rfl rfl Tryz.underlying32 rfl rfl PP.out QQ.out (by simp) B.out.size ?_
 intro v7 w7 o9 g9 hz
 clear hz
 replace B:=Avp (B.out.grown g9 B.out.size (fun q hq=>(PP.out.own q hq).1))
 replace PP:=Avp o9
 clear o9 g9 QQ
 simp only[Act.put,List.setIfInBounds_toArray,List.set_cons_zero,List.set_cons_succ]
 go_wp2
 refine wp_loop_rounds 1 ?_
 rw[rounds_succ]
 have hbx:Below w7.heap.size w7 (w7.alloc (.cells #[.int .i64 6] 50)):=by go_grown
 replace PP:=Avp (PP.out.mono hbx);replace B:=Avp (B.out.le hbx)
 have QQ:=Avp (Fl w7 6 50)
 clear hbx
 go_wp2_with (first
  | (at_builtin;refine Bb ?_)
  | fail)
 unfold Az
 refine Aj (B:=w.heap.size) Er rfl rfl Tryz.underlying32 rfl rfl PP.out QQ.out (by simp) B.out.size ?_
 intro v8 w8 o9 g9 hz
 clear hz
 replace B:=Avp (B.out.grown g9 B.out.size (fun q hq=>(PP.out.own q hq).1))
 replace PP:=Avp o9
 clear o9 g9 QQ
 simp only[Act.put,List.setIfInBounds_toArray,List.set_cons_zero,List.set_cons_succ]
 go_wp2
 go_ret
 obtain⟨A9,c9,e9,s9⟩:=Ag.sl PP.out
 exact⟨_,rfl,B.out,A9,_,c9,e9,s9⟩
theorem Arj {w:World} (c:Ce) (A:Option Addr) (m k:Nat) (hk:c.key.length<=300) (ho:c.other.length<=300) (h1:1<=k) (h2:k<=1024) (hc:Bw c=true) (hz:(Jn (Cz c) k).length=1) :
  Calls Tryz.prog 10 #[Aq c A c.data.length m,.int .i64 (k:Int)] w (Ret w (J8 (Dp 1))):=by
 have CH:=Avp (fun w1=>Mn c A m w1)
 have KY:=Avp (fun(w1:World)=>Ag0 (w:=w1) c A m (by omega) (by omega))
 have HL:=Avp (He c (by omega) (by omega));have KSL:=Avp (Fw c)
 rw[hc] at CH
 generalize Cz c=ks at *
 have K1:=Avp h1;have K2:=Avp h2;have HZ:=Avp hz
 clear hk ho hc hz h1 h2
 obtain⟨op,key,other,item,qty,data⟩:=c
 unfold Aq at *
 simp only at *
 generalize data.length=n at *
 have X:=Avp (Bx.new w #[.int .i64 op,Ac key,Ac other,Ac item,.int .i64 qty,.slice A n m] 25)
 have B:=Avp (show Below w.heap.size w (w.alloc (.cells #[.int .i64 op,Ac key,Ac other,Ac item,.int .i64 qty,.slice A n m] 25)) by go_grown)
 have q0:=X.out.cell 0 rfl;have q1:=X.out.cell 1 rfl;have q2:=X.out.cell 2 rfl;have q3:=X.out.cell 3 rfl;have q4:=X.out.cell 4 rfl;have q5:=X.out.cell 5 rfl
 go_enter Tryz.func10,Tryz.ntmps10
 go_wp2_with fail
 refine(CH.out _).mono ?_
 rintro _ w3 ⟨_,rfl,hb3,rfl⟩
 replace X:=Avp (X.out.mono hb3);replace B:=Avp (B.out.le hb3)
 clear q0 q1 q2 q3 q4 q5
 clear hb3 CH
 have q0:=X.out.cell 0 rfl;have q1:=X.out.cell 1 rfl;have q2:=X.out.cell 2 rfl;have q3:=X.out.cell 3 rfl;have q4:=X.out.cell 4 rfl;have q5:=X.out.cell 5 rfl
 go_wp2_with fail
 refine(KY.out _).mono ?_
 rintro _ w4 ⟨_,rfl,hb4,hk4⟩
 obtain⟨A4,c4,rfl,s4⟩:=Ag.sl hk4
 have O:=Avp (Ab1 s4 (by have:=KSL.out;omega) HL.out K1.out K2.out)
 replace B:=Avp (B.out.le hb4)
 clear hb4 KY hk4 s4 q0 q1 q2 q3 q4 q5 X
 go_wp2_with fail
 refine O.out.mono ?_
 rintro _ w5 ⟨_,rfl,hb5,A5,n5,c5,rfl,s5⟩
 replace B:=Avp (B.out.le hb5)
 obtain rfl:n5=1:=s5.len.trans HZ.out
 clear hb5 s5 O K1 K2 HL HZ KSL
 have PP:=Avp ((Ag.oneNew encI w5 (1:Int) #[.int .i64 1] rfl 50 (by decide)).low (B':=w.heap.size) B.out.size)
 replace B:=Avp (B.out.le (show Below (w5).heap.size w5 ((w5).alloc (.cells #[.int .i64 1] 50)) by go_grown))
 go_wp2_with fail
 generalize w5.alloc (.cells #[.int .i64 1] 50)=w6 at *
 refine wp_loop_rounds 2 ?_
 rw[rounds_succ]
 have hbx:Below w6.heap.size w6 (w6.alloc (.cells #[.int .i64 2] 50)):=by go_grown
 replace PP:=Avp (PP.out.mono hbx);replace B:=Avp (B.out.le hbx)
 have QQ:=Avp (Fl w6 2 50)
 clear hbx
 go_wp2_with (first
  | (at_builtin;refine Bb ?_)
  | fail)
 unfold Az
 refine Aj (B:=w.heap.size) Er rfl rfl Tryz.underlying32 rfl rfl PP.out QQ.out (by simp) B.out.size ?_
 intro v7 w7 o9 g9 hz
 clear hz
 replace B:=Avp (B.out.grown g9 B.out.size (fun q hq=>(PP.out.own q hq).1))
 replace PP:=Avp o9
 clear o9 g9 QQ
 simp only[Act.put,List.setIfInBounds_toArray,List.set_cons_zero,List.set_cons_succ]
 go_wp2
 rw[rounds_succ]
 have hbx:Below w7.heap.size w7 (w7.alloc (.cells #[.int .i64 3] 50)):=by go_grown
 replace PP:=Avp (PP.out.mono hbx);replace B:=Avp (B.out.le hbx)
 have QQ:=Avp (Fl w7 3 50)
 clear hbx
 go_wp2_with (first
  | (at_builtin;refine Bb ?_)
  | fail)
 unfold Az
 refine Aj (B:=w.heap.size) Er rfl rfl Tryz.underlying32 rfl rfl PP.out QQ.out (by simp) B.out.size ?_
 intro v8 w8 o9 g9 hz
 clear hz
 replace B:=Avp (B.out.grown g9 B.out.size (fun q hq=>(PP.out.own q hq).1))
 replace PP:=Avp o9
 clear o9 g9 QQ
 simp only[Act.put,List.setIfInBounds_toArray,List.set_cons_zero,List.set_cons_succ]
 have hbx:Below w8.heap.size w8 (w8.alloc (.cells #[.int .i64 4] 50)):=by go_grown
 replace PP:=Avp (PP.out.mono hbx);replace B:=Avp (B.out.le hbx)
 have QQ:=Avp (Fl w8 4 50)
 clear hbx
 go_wp2_with (first
  | (at_builtin;refine Bb ?_)
  | fail)
 unfold Az
 refine Aj (B:=w.heap.size) Er rfl rfl Tryz.underlying32 rfl rfl PP.out QQ.out (by simp) B.out.size ?_
 intro v9 w9 o9 g9 hz
 clear hz
 replace B:=Avp (B.out.grown g9 B.out.size (fun q hq=>(PP.out.own q hq).1))
 replace PP:=Avp o9
 clear o9 g9 QQ
 simp only[Act.put,List.setIfInBounds_toArray,List.set_cons_zero,List.set_cons_succ]
 go_wp2
 refine wp_loop_rounds 2 ?_
 rw[rounds_succ]
 have hbx:Below w9.heap.size w9 (w9.alloc (.cells #[.int .i64 5] 50)):=by go_grown
 replace PP:=Avp (PP.out.mono hbx);replace B:=Avp (B.out.le hbx)
 have QQ:=Avp (Fl w9 5 50)
 clear hbx
 go_wp2_with (first
  | (at_builtin;refine Bb ?_)
  | fail)
 unfold Az
 refine Aj (B:=w.heap.size) Er rfl rfl Tryz.underlying32 rfl rfl PP.out QQ.out (by simp) B.out.size ?_
 intro v10 w10 o9 g9 hz
 clear hz
 replace B:=Avp (B.out.grown g9 B.out.size (fun q hq=>(PP.out.own q hq).1))
 replace PP:=Avp o9
 clear o9 g9 QQ
 simp only[Act.put,List.setIfInBounds_toArray,List.set_cons_zero,List.set_cons_succ]
 go_wp2
 rw[rounds_succ]
 have hbx:Below w10.heap.size w10 (w10.alloc (.cells #[.int .i64 6] 50)):=by go_grown
 replace PP:=Avp (PP.out.mono hbx);replace B:=Avp (B.out.le hbx)
 have QQ:=Avp (Fl w10 6 50)
 clear hbx
 go_wp2_with (first
  | (at_builtin;refine Bb ?_)
  | fail)
 unfold Az
 refine Aj (B:=w.heap.size) Er rfl rfl Tryz.underlying32 rfl rfl PP.out QQ.out (by simp) B.out.size ?_
 intro v11 w11 o9 g9 hz
 clear hz
 replace B:=Avp (B.out.grown g9 B.out.size (fun q hq=>(PP.out.own q hq).1))
 replace PP:=Avp o9
 clear o9 g9 QQ
 simp only[Act.put,List.setIfInBounds_toArray,List.set_cons_zero,List.set_cons_succ]
 go_wp2
 go_ret
 obtain⟨A9,c9,e9,s9⟩:=Ag.sl PP.out
 exact⟨_,rfl,B.out,A9,_,c9,e9,s9⟩
theorem Aq5 {w:World} (c:Ce) (A:Option Addr) (m k:Nat) (hk:c.key.length<=300) (ho:c.other.length<=300) (h1:1<=k) (h2:k<=1024) (hc:Bw c=true) (hz:(Jn (Cz c) k).length=2) :
  Calls Tryz.prog 10 #[Aq c A c.data.length m,.int .i64 (k:Int)] w (Ret w (J8 (Dp 2))):=by
 have CH:=Avp (fun w1=>Mn c A m w1)
 have KY:=Avp (fun(w1:World)=>Ag0 (w:=w1) c A m (by omega) (by omega))
 have HL:=Avp (He c (by omega) (by omega));have KSL:=Avp (Fw c)
 rw[hc] at CH
 generalize Cz c=ks at *
 have K1:=Avp h1;have K2:=Avp h2;have HZ:=Avp hz
 clear hk ho hc hz h1 h2
 obtain⟨op,key,other,item,qty,data⟩:=c
 unfold Aq at *
 simp only at *
 generalize data.length=n at *
 have X:=Avp (Bx.new w #[.int .i64 op,Ac key,Ac other,Ac item,.int .i64 qty,.slice A n m] 25)
 have B:=Avp (show Below w.heap.size w (w.alloc (.cells #[.int .i64 op,Ac key,Ac other,Ac item,.int .i64 qty,.slice A n m] 25)) by go_grown)
 have q0:=X.out.cell 0 rfl;have q1:=X.out.cell 1 rfl;have q2:=X.out.cell 2 rfl;have q3:=X.out.cell 3 rfl;have q4:=X.out.cell 4 rfl;have q5:=X.out.cell 5 rfl
 go_enter Tryz.func10,Tryz.ntmps10
 go_wp2_with fail
 refine(CH.out _).mono ?_
 rintro _ w3 ⟨_,rfl,hb3,rfl⟩
 replace X:=Avp (X.out.mono hb3);replace B:=Avp (B.out.le hb3)
 clear q0 q1 q2 q3 q4 q5
 clear hb3 CH
 have q0:=X.out.cell 0 rfl;have q1:=X.out.cell 1 rfl;have q2:=X.out.cell 2 rfl;have q3:=X.out.cell 3 rfl;have q4:=X.out.cell 4 rfl;have q5:=X.out.cell 5 rfl
 go_wp2_with fail
 refine(KY.out _).mono ?_
 rintro _ w4 ⟨_,rfl,hb4,hk4⟩
 obtain⟨A4,c4,rfl,s4⟩:=Ag.sl hk4
 have O:=Avp (Ab1 s4 (by have:=KSL.out;omega) HL.out K1.out K2.out)
 replace B:=Avp (B.out.le hb4)
 clear hb4 KY hk4 s4 q0 q1 q2 q3 q4 q5 X
 go_wp2_with fail
 refine O.out.mono ?_
 rintro _ w5 ⟨_,rfl,hb5,A5,n5,c5,rfl,s5⟩
 replace B:=Avp (B.out.le hb5)
 obtain rfl:n5=2:=s5.len.trans HZ.out
 clear hb5 s5 O K1 K2 HL HZ KSL
 have PP:=Avp ((Ag.oneNew encI w5 (1:Int) #[.int .i64 1] rfl 50 (by decide)).low (B':=w.heap.size) B.out.size)
 replace B:=Avp (B.out.le (show Below (w5).heap.size w5 ((w5).alloc (.cells #[.int .i64 1] 50)) by go_grown))
 go_wp2_with fail
 generalize w5.alloc (.cells #[.int .i64 1] 50)=w6 at *
 refine wp_loop_rounds 3 ?_
 rw[rounds_succ]
 have hbx:Below w6.heap.size w6 (w6.alloc (.cells #[.int .i64 2] 50)):=by go_grown
 replace PP:=Avp (PP.out.mono hbx);replace B:=Avp (B.out.le hbx)
 have QQ:=Avp (Fl w6 2 50)
 clear hbx
 go_wp2_with (first
  | (at_builtin;refine Bb ?_)
  | fail)
 unfold Az
 refine Aj (B:=w.heap.size) Er rfl rfl Tryz.underlying32 rfl rfl PP.out QQ.out (by simp) B.out.size ?_
 intro v7 w7 o9 g9 hz
 clear hz
 replace B:=Avp (B.out.grown g9 B.out.size (fun q hq=>(PP.out.own q hq).1))
 replace PP:=Avp o9
 clear o9 g9 QQ
 simp only[Act.put,List.setIfInBounds_toArray,List.set_cons_zero,List.set_cons_succ]
 go_wp2
 rw[rounds_succ]
 have hbx:Below w7.heap.size w7 (w7.alloc (.cells #[.int .i64 2] 50)):=by go_grown
 replace PP:=Avp (PP.out.mono hbx);replace B:=Avp (B.out.le hbx)
 have QQ:=Avp (Fl w7 2 50)
 clear hbx
 go_wp2_with (first
  | (at_builtin;refine Bb ?_)
  | fail)
 unfold Az
 refine Aj (B:=w.heap.size) Er rfl rfl Tryz.underlying32 rfl rfl PP.out QQ.out (by simp) B.out.size ?_
 intro v8 w8 o9 g9 hz
 clear hz
 replace B:=Avp (B.out.grown g9 B.out.size (fun q hq=>(PP.out.own q hq).1))
 replace PP:=Avp o9
 clear o9 g9 QQ
 simp only[Act.put,List.setIfInBounds_toArray,List.set_cons_zero,List.set_cons_succ]
 go_wp2
 rw[rounds_succ]
 have hbx:Below w8.heap.size w8 (w8.alloc (.cells #[.int .i64 3] 50)):=by go_grown
 replace PP:=Avp (PP.out.mono hbx);replace B:=Avp (B.out.le hbx)
 have QQ:=Avp (Fl w8 3 50)
 clear hbx
 go_wp2_with (first
  | (at_builtin;refine Bb ?_)
  | fail)
 unfold Az
 refine Aj (B:=w.heap.size) Er rfl rfl Tryz.underlying32 rfl rfl PP.out QQ.out (by simp) B.out.size ?_
 intro v9 w9 o9 g9 hz
 clear hz
 replace B:=Avp (B.out.grown g9 B.out.size (fun q hq=>(PP.out.own q hq).1))
 replace PP:=Avp o9
 clear o9 g9 QQ
 simp only[Act.put,List.setIfInBounds_toArray,List.set_cons_zero,List.set_cons_succ]
 have hbx:Below w9.heap.size w9 (w9.alloc (.cells #[.int .i64 4] 50)):=by go_grown
 replace PP:=Avp (PP.out.mono hbx);replace B:=Avp (B.out.le hbx)
 have QQ:=Avp (Fl w9 4 50)
 clear hbx
 go_wp2_with (first
  | (at_builtin;refine Bb ?_)
  | fail)
 unfold Az
 refine Aj (B:=w.heap.size) Er rfl rfl Tryz.underlying32 rfl rfl PP.out QQ.out (by simp) B.out.size ?_
 intro v10 w10 o9 g9 hz
 clear hz
 replace B:=Avp (B.out.grown g9 B.out.size (fun q hq=>(PP.out.own q hq).1))
 replace PP:=Avp o9
 clear o9 g9 QQ
 simp only[Act.put,List.setIfInBounds_toArray,List.set_cons_zero,List.set_cons_succ]
 go_wp2
 refine wp_loop_rounds 3 ?_
 rw[rounds_succ]
 have hbx:Below w10.heap.size w10 (w10.alloc (.cells #[.int .i64 5] 50)):=by go_grown
 replace PP:=Avp (PP.out.mono hbx);replace B:=Avp (B.out.le hbx)
 have QQ:=Avp (Fl w10 5 50)
 clear hbx
 go_wp2_with (first
  | (at_builtin;refine Bb ?_)
  | fail)
 unfold Az
 refine Aj (B:=w.heap.size) Er rfl rfl Tryz.underlying32 rfl rfl PP.out QQ.out (by simp) B.out.size ?_
 intro v11 w11 o9 g9 hz
 clear hz
 replace B:=Avp (B.out.grown g9 B.out.size (fun q hq=>(PP.out.own q hq).1))
 replace PP:=Avp o9
 clear o9 g9 QQ
 simp only[Act.put,List.setIfInBounds_toArray,List.set_cons_zero,List.set_cons_succ]
 go_wp2
 rw[rounds_succ]
 have hbx:Below w11.heap.size w11 (w11.alloc (.cells #[.int .i64 5] 50)):=by go_grown
 replace PP:=Avp (PP.out.mono hbx);replace B:=Avp (B.out.le hbx)
 have QQ:=Avp (Fl w11 5 50)
 clear hbx
 go_wp2_with (first
  | (at_builtin;refine Bb ?_)
  | fail)
 unfold Az
 refine Aj (B:=w.heap.size) Er rfl rfl Tryz.underlying32 rfl rfl PP.out QQ.out (by simp) B.out.size ?_
 intro v12 w12 o9 g9 hz
 clear hz
 replace B:=Avp (B.out.grown g9 B.out.size (fun q hq=>(PP.out.own q hq).1))
 replace PP:=Avp o9
 clear o9 g9 QQ
 simp only[Act.put,List.setIfInBounds_toArray,List.set_cons_zero,List.set_cons_succ]
 go_wp2
 rw[rounds_succ]
 have hbx:Below w12.heap.size w12 (w12.alloc (.cells #[.int .i64 6] 50)):=by go_grown
 replace PP:=Avp (PP.out.mono hbx);replace B:=Avp (B.out.le hbx)
 have QQ:=Avp (Fl w12 6 50)
 clear hbx
 go_wp2_with (first
  | (at_builtin;refine Bb ?_)
  | fail)
 unfold Az
 refine Aj (B:=w.heap.size) Er rfl rfl Tryz.underlying32 rfl rfl PP.out QQ.out (by simp) B.out.size ?_
 intro v13 w13 o9 g9 hz
 clear hz
 replace B:=Avp (B.out.grown g9 B.out.size (fun q hq=>(PP.out.own q hq).1))
 replace PP:=Avp o9
 clear o9 g9 QQ
 simp only[Act.put,List.setIfInBounds_toArray,List.set_cons_zero,List.set_cons_succ]
 go_wp2
 go_ret
 obtain⟨A9,c9,e9,s9⟩:=Ag.sl PP.out
 exact⟨_,rfl,B.out,A9,_,c9,e9,s9⟩
theorem Asv {w:World} (c:Ce) (A:Option Addr) (m k:Nat) (hk:c.key.length<=300) (ho:c.other.length<=300) (h1:1<=k) (h2:k<=1024):Calls Tryz.prog 10 #[Aq c A c.data.length m,.int .i64 (k:Int)] w (Ret w (J8 (Dp (Es c k)))):=by
 have hle:=Rk c k
 unfold Es at hle ⊢
 cases hc:Bw c with
 | false=>exact Arx c A m k hc
 | true=>
  rw[hc,if_pos rfl] at hle
  rw[if_pos rfl]
  have hz:(Jn (Cz c) k).length=0∨(Jn (Cz c) k).length=1∨(Jn (Cz c) k).length=2:=by omega
  rcases hz with hz | hz | hz
  ·rw[hz];exact Are c A m k hk ho h1 h2 hc hz
  ·rw[hz];exact Arj c A m k hk ho h1 h2 hc hz
  ·rw[hz];exact Aq5 c A m k hk ho h1 h2 hc hz
theorem retB' {b c:Bool} {w w':World} (h:b=c) (hb:Below w.heap.size w w'):Ret w (IsB c) (.returned (.bool b)) w':=⟨_,rfl,hb,by rw[h];rfl⟩
section
variable {ops:List Oper} {Fs:List VT} {w0:World} {a0:Act} {i:Nat} {d:Option Tmp} {ty:TypeId} {pos:String} {after:Array Edge} {g:Option (Nat×Bool)}
theorem Ob.lenSlK {x:Operand} {l:List Int} (hw:Aa ops Fs w0 a0 i ⟨d,.call ⟨.builtin .len,#[x],#[32]⟩,ty,pos,after,g⟩) (hx:Has ops Fs w0 a0 i ⟨d,.call ⟨.builtin .len,#[x],#[32]⟩,ty,pos,after,g⟩ x (J8 l)) (_:True) :
  Ob Tryz.prog ops Fs w0 a0 i ⟨d,.call ⟨.builtin .len,#[x],#[32]⟩,ty,pos,after,g⟩ (Is (.int .i64 ((l.length:Nat):Int))):=
 Ob.stay hw fun a w cx=>by
  obtain⟨A,n,c,e,s⟩:=hx a w cx
  obtain rfl:=s.len
  refine⟨.int .i64 ((l.length:Nat):Int),?_,rfl⟩
  generalize a.eval=ρ at e
  simp[execOp,resolve,invoke,builtin,e,go_sem]
end
theorem Xi:Enters Tryz.prog 10:=enters_of Tryz.func10 (by kernel_rfl) rfl
theorem Ts {w0 w:World} {N:Nat} {cs:Array Value} (h:Bx w0 N cs.toList) (hc:cs.size=6) (hb:Below w0.heap.size w0 w):(Instr.loadAt 25 (.pointer (some ⟨N,0,none⟩))).run Tryz.prog w = .ok (.agg cs) w:=by
 have:=Aml (h.mono hb) Tryz.underlying25 rfl (show(Tryz.prog.info? 25).map (·.size)=some cs.toList.length by rw[Array.length_toList,hc];kernel_rfl)
 simpa using this
def Vh (c:Ce):Bool:=decide (c.key.length<=300)&&(decide (c.other.length<=300)&&(decide (c.item.length<=300)&&decide (c.data.length<=300)))
theorem Atc {w : World} {b : Nat} (c : Ce) (A : Option Addr) (m : Nat) (h : Bx w b (Rv c A c.data.length m).toList) : Calls Tryz.prog 6 #[.slice (some ⟨b, 0, none⟩) 1 1, .int .i64 1] w (Ret w (IsB (Vh c))) := by
  have q1 := h.cell 1 rfl; have q2 := h.cell 2 rfl; have q3 := h.cell 3 rfl; have q5 := h.cell 5 rfl
  clear h
  unfold Vh
  obtain ⟨op, key, other, item, qty, data⟩ := c
  simp only at *
  generalize data.length = n at *
  go_enter Tryz.func6, Tryz.ntmps6
  go_wp2
  refine wp_loop_rounds 2 ?_
  rw [rounds_succ]
  go_wp2
  all_goals first
    | (go_ret; exact Ay (by rw [Bool.eq_iff_iff]; simp; omega) (Below.refl _ _))
    | (rw [rounds_succ]
       go_wp2
       go_ret
       exact Ay (by rw [Bool.eq_iff_iff]; simp; omega) (Below.refl _ _))
theorem Vv {w:World} (c:Ce) (A:Option Addr) (m:Nat) (s e:Int) (l:List Int) (P:∀ w1,Below w.heap.size w w1->Calls Tryz.prog 49 #[Aq c A c.data.length m,.int .i64 s] w1 (Ret w1 (Ih l e))) (hl:l.length<=1000000) :
  Calls Tryz.prog 27 #[Aq c A c.data.length m,.int .i64 s] w (Ret w (Is (.tuple #[.int .i64 (l.length:Nat),.int .i64 e]))):=by
 have P:=Avp P
 have HL:=Avp hl
 clear hl
 obtain⟨op,key,other,item,qty,data⟩:=c
 unfold Aq at *
 simp only at *
 generalize data.length=n at *
 have B:=Avp (show Below w.heap.size w (w.alloc (.cells #[.int .i64 op,Ac key,Ac other,Ac item,.int .i64 qty,.slice A n m] 25)) by go_grown)
 have X:=Avp (Bx.new w #[.int .i64 op,Ac key,Ac other,Ac item,.int .i64 qty,.slice A n m] 25)
 obtain⟨N,hN⟩:∃ N,N=w.heap.size:=⟨_,rfl⟩
 rw[<-hN] at X
 go_enter Tryz.func27,Tryz.ntmps27
 go_wp2_with fail
 rw[<-hN]
 clear hN
 generalize w.alloc (.cells #[.int .i64 op,Ac key,Ac other,Ac item,.int .i64 qty,.slice A n m] 25)=w1 at *
 have q0:=X.out.cell 0 rfl;have q1:=X.out.cell 1 rfl;have q2:=X.out.cell 2 rfl;have q3:=X.out.cell 3 rfl;have q4:=X.out.cell 4 rfl;have q5:=X.out.cell 5 rfl
 go_wp2_with fail
 refine(P.out _ B.out).mono ?_
 rintro _ w2 ⟨_,rfl,hb2,A2,n2,c2,rfl,s2⟩
 obtain rfl:n2=l.length:=s2.len
 have hbig:=s2.big
 replace B:=Avp (B.out.le hb2)
 clear hb2 s2 q0 q1 q2 q3 q4 q5 X P
 go_wp2
 refine bodyPost_ret (v:=.tuple #[.int .i64 (l.length:Nat),.int .i64 e]) (by simp[results,Tryz.results27,go_sem]) rfl ?_
 exact⟨_,rfl,B.out,rfl⟩
theorem Kc {w:World} (c:Ce) (A:Option Addr) (m:Nat) (s e:Int) (l:List Int) (P:∀ w1,Below w.heap.size w w1->Calls Tryz.prog 49 #[Aq c A c.data.length m,.int .i64 s] w1 (Ret w1 (Ih l e))) (hl:l.length<=1000000) :
  Calls Tryz.prog 9 #[Aq c A c.data.length m,.int .i64 s,.int .i64 (l.length:Nat),.int .i64 e] w (Ret w (IsB true)):=by
 have F:=Avp (fun(w1:World) (hb:Below w.heap.size w w1)=>Vv (w:=w1) c A m s e l (fun w2 hb2=>P w2 (hb.le hb2)) hl)
 clear hl P
 obtain⟨op,key,other,item,qty,data⟩:=c
 unfold Aq at *
 simp only at *
 generalize data.length=n at *
 generalize (l.length:Int)=z at *
 have B:=Avp (show Below w.heap.size w (w.alloc (.cells #[.int .i64 op,Ac key,Ac other,Ac item,.int .i64 qty,.slice A n m] 25)) by go_grown)
 have X:=Avp (Bx.new w #[.int .i64 op,Ac key,Ac other,Ac item,.int .i64 qty,.slice A n m] 25)
 obtain⟨N,hN⟩:∃ N,N=w.heap.size:=⟨_,rfl⟩
 rw[<-hN] at X
 go_enter Tryz.func9,Tryz.ntmps9
 go_wp2_with fail
 rw[<-hN]
 clear hN
 generalize w.alloc (.cells #[.int .i64 op,Ac key,Ac other,Ac item,.int .i64 qty,.slice A n m] 25)=w1 at *
 have q0:=X.out.cell 0 rfl;have q1:=X.out.cell 1 rfl;have q2:=X.out.cell 2 rfl;have q3:=X.out.cell 3 rfl;have q4:=X.out.cell 4 rfl;have q5:=X.out.cell 5 rfl
 go_wp2_with fail
 refine(F.out _ B.out).mono ?_
 rintro _ w2 ⟨_,rfl,hb2,rfl⟩
 replace B:=Avp (B.out.le hb2)
 clear hb2 q0 q1 q2 q3 q4 q5 X F
 go_wp2
 go_ret
 exact retB' (by simp) B.out
def Jg (_:World) (v:Value):Prop:=∃ p,v = .tuple #[.pointer (some p),.int .i64 0]
theorem Aub (w:World):Calls Tryz.prog 100 #[.int .i64 3] w (Ret w Jg):=by
 have B:=Avp (show Below w.heap.size w (w.alloc (.cells #[.int .i64 3,.slice none 0 0,.int .i64 0,.int .i64 0] 270)) by go_grown)
 go_enter Tryz.func100,Tryz.ntmps100
 go_wp2
 refine bodyPost_ret (v:=.tuple #[.pointer (some ⟨w.heap.size,0,none⟩),.int .i64 0]) (by simp[results,Tryz.results100,go_sem]) rfl ?_
 exact⟨_,rfl,B.out,_,rfl⟩
theorem Aue (w:World):Calls Tryz.prog 101 #[.int .i64 2] w (Ret w Jg):=by
 have B:=Avp (show Below w.heap.size w (w.alloc (.cells #[.int .i64 2,.slice none 0 0,.slice none 0 0] 272)) by go_grown)
 go_enter Tryz.func101,Tryz.ntmps101
 go_wp2
 refine bodyPost_ret (v:=.tuple #[.pointer (some ⟨w.heap.size,0,none⟩),.int .i64 0]) (by simp[results,Tryz.results101,go_sem]) rfl ?_
 exact⟨_,rfl,B.out,_,rfl⟩
theorem Asm (w:World):Calls Tryz.prog 68 #[.agg #[.int .i64 1,.int .i64 1,.int .i64 3,.int .i64 2]] w (Ret w Jg):=by
 have X:=Avp (Bx.new w #[.int .i64 1,.int .i64 1,.int .i64 3,.int .i64 2] 36)
 have B:=Avp (show Below w.heap.size w (w.alloc (.cells #[.int .i64 1,.int .i64 1,.int .i64 3,.int .i64 2] 36)) by go_grown)
 obtain⟨N,hN⟩:∃ N,N=w.heap.size:=⟨_,rfl⟩
 rw[<-hN] at X
 go_enter Tryz.func68,Tryz.ntmps68
 go_wp2_with fail
 rw[<-hN]
 clear hN
 generalize w.alloc (.cells #[.int .i64 1,.int .i64 1,.int .i64 3,.int .i64 2] 36)=w1 at *
 have x1:=X.out.cell 1 rfl
 go_wp2_with fail
 refine(Ape w1).mono ?_
 rintro _ w2 ⟨_,rfl,hb2,T,S,M,rfl,-,-,-,-,-⟩
 replace X:=Avp (X.out.mono hb2);replace B:=Avp (B.out.le hb2)
 clear hb2 x1
 have x0:=X.out.cell 0 rfl
 go_wp2_with fail
 refine(Apr w2).mono ?_
 rintro _ w3 ⟨_,rfl,hb3,C,-,rfl,-⟩
 replace X:=Avp (X.out.mono hb3);replace B:=Avp (B.out.le hb3)
 clear hb3 x0
 have x2:=X.out.cell 2 rfl
 go_wp2_with fail
 refine(Aub w3).mono ?_
 rintro _ w4 ⟨_,rfl,hb4,pi,rfl⟩
 replace X:=Avp (X.out.mono hb4);replace B:=Avp (B.out.le hb4)
 clear hb4 x2
 have x3:=X.out.cell 3 rfl
 go_wp2_with fail
 refine(Aue w4).mono ?_
 rintro _ w5 ⟨_,rfl,hb5,po,rfl⟩
 replace X:=Avp (X.out.mono hb5);replace B:=Avp (B.out.le hb5)
 clear hb5 x3
 have x0:=X.out.cell 0 rfl;have x1:=X.out.cell 1 rfl;have x2:=X.out.cell 2 rfl;have x3:=X.out.cell 3 rfl
 have hb6:Below w5.heap.size w5 (w5.alloc (.cells #[.int .i64 1,.int .i64 1,.int .i64 3,.int .i64 2,.pointer (some ⟨T,0,none⟩),.pointer (some ⟨C,0,none⟩),.pointer (some pi),.pointer (some po),.bool false] 195)):=by go_grown
 replace B:=Avp (B.out.le hb6)
 clear hb6
 go_wp2
 refine bodyPost_ret (v:=.tuple #[.pointer (some ⟨w5.heap.size,0,none⟩),.int .i64 0]) (by simp[results,Tryz.results68,go_sem]) rfl ?_
 exact⟨_,rfl,B.out,_,rfl⟩
theorem Ai4 (w:World):Calls Tryz.prog 69 #[.int .i64 1] w (Ret w Jg):=by
 obtain⟨i,hi,hz,hsz,hby⟩:=info_parts (P:=Tryz.prog) (show(Tryz.prog.info? 52).map (fun i=>(i.zero,i.size,i.bytes))=some (some (.slice none 0 0),1,24) by kernel_rfl)
 have HZ:=Avp hz;have HS:=Avp hsz;have HY:=Avp hby;have HI:=Avp hi
 clear hz hsz hby hi
 go_enter Tryz.func69,Tryz.ntmps69
 go_wp2_with (first | (at_make;refine Az.go ?_) | fail)
 unfold Az
 refine wpList_make_full w rfl _ _ 123 rfl w.heap.size 52 i _ 1 Tryz.underlying123 HI.out HZ.out HS.out .i64 .i64 1 1 1 rfl rfl rfl rfl (by rw[HY.out];omega) (by unfold maxLen;omega) (Nat.le_refl _) ?_
 intro w6 ho hg
 have B6:=Avp (show Below w.heap.size w w6 from(Below.refl _ _).grown hg (Nat.le_refl _) (fun q hq=>nomatch hq))
 clear ho hg
 go_wp2
 refine bodyPost_ret (v:=.tuple #[.pointer (some ⟨w6.heap.size,0,none⟩),.int .i64 0]) (by simp[results,Tryz.results69,go_sem]) rfl ?_
 exact⟨_,rfl,B6.out.le (by go_grown),_,rfl⟩
theorem Xu (w:World):Calls Tryz.prog 81 #[.slice none 0 0] w (Ret w (Is (.slice none 0 0))):=by
 have hq:=fun w a n c=>Lib.run_eql_slice_nil (P:=Tryz.prog) w 23 5 a n c 0 0 Tryz.underlying23
 go_enter Tryz.func81,Tryz.ntmps81
 go_wp2
 go_ret
 exact⟨_,rfl,Below.refl _ _,rfl⟩
theorem Alz (w:World):Calls Tryz.prog 45 #[.int .i64 0,.agg #[.int .i64 9,Ac [],Ac [],Ac [],.int .i64 0,.slice none 0 0],.int .i64 7] w (Ret w Jg):=by
 have X:=Avp (Bx.new w #[.int .i64 9,Ac [],Ac [],Ac [],.int .i64 0,.slice none 0 0] 25)
 have B:=Avp (show Below w.heap.size w (w.alloc (.cells #[.int .i64 9,Ac [],Ac [],Ac [],.int .i64 0,.slice none 0 0] 25)) by go_grown)
 obtain⟨N,hN⟩:∃ N,N=w.heap.size:=⟨_,rfl⟩
 rw[<-hN] at X
 go_enter Tryz.func45,Tryz.ntmps45
 go_wp2_with fail
 refine(Xu _).mono ?_
 rintro _ w2 ⟨_,rfl,hb2,rfl⟩
 rw[<-hN]
 have EN:=Avp hN
 clear hN
 replace X:=Avp (X.out.mono hb2);replace B:=Avp (B.out.le hb2)
 clear hb2
 have f5:=X.out.fr 5 (by simp)
 have q0:=X.out.cell 0 rfl;have q1:=X.out.cell 1 rfl;have q2:=X.out.cell 2 rfl;have q3:=X.out.cell 3 rfl;have q4:=X.out.cell 4 rfl;have q5:=X.out.cell 5 rfl
 go_wp2
 refine bodyPost_ret (v:=.tuple #[.pointer (some ⟨w2.heap.size,0,none⟩),.int .i64 0]) (by simp[results,Tryz.results45,go_sem]) rfl ?_
 exact⟨_,rfl,(B.out.setCell (p:=⟨N,5,none⟩) (by rw[EN.out];exact Nat.le_refl _) _).le (by go_grown),_,rfl⟩
theorem Ajj (w:World):Calls Tryz.prog 17 #[.int .i64 0] w (Ret w Jg):=by
 have F:=Avp (fun w1=>Alz w1)
 go_enter Tryz.func17,Tryz.ntmps17
 go_wp2_with fail
 refine(F.out _).mono ?_
 rintro _ w1 ⟨_,rfl,hb1,p,rfl⟩
 have B1:=Avp hb1
 clear hb1 F
 go_wp2
 refine bodyPost_ret (v:=.tuple #[.pointer (some p),.int .i64 0]) (by simp[results,Tryz.results17,go_sem]) rfl ?_
 exact⟨_,rfl,B1.out,_,rfl⟩
theorem Ame (w:World):Calls Tryz.prog 45 #[.int .i64 1,.agg #[.int .i64 10,Ac [],Ac [],Ac [],.int .i64 0,.slice none 0 0],.int .i64 7] w (Ret w Jg):=by
 have X:=Avp (Bx.new w #[.int .i64 10,Ac [],Ac [],Ac [],.int .i64 0,.slice none 0 0] 25)
 have B:=Avp (show Below w.heap.size w (w.alloc (.cells #[.int .i64 10,Ac [],Ac [],Ac [],.int .i64 0,.slice none 0 0] 25)) by go_grown)
 obtain⟨N,hN⟩:∃ N,N=w.heap.size:=⟨_,rfl⟩
 rw[<-hN] at X
 go_enter Tryz.func45,Tryz.ntmps45
 go_wp2_with fail
 refine(Xu _).mono ?_
 rintro _ w2 ⟨_,rfl,hb2,rfl⟩
 rw[<-hN]
 have EN:=Avp hN
 clear hN
 replace X:=Avp (X.out.mono hb2);replace B:=Avp (B.out.le hb2)
 clear hb2
 have f5:=X.out.fr 5 (by simp)
 have q0:=X.out.cell 0 rfl;have q1:=X.out.cell 1 rfl;have q2:=X.out.cell 2 rfl;have q3:=X.out.cell 3 rfl;have q4:=X.out.cell 4 rfl;have q5:=X.out.cell 5 rfl
 go_wp2
 refine bodyPost_ret (v:=.tuple #[.pointer (some ⟨w2.heap.size,0,none⟩),.int .i64 0]) (by simp[results,Tryz.results45,go_sem]) rfl ?_
 exact⟨_,rfl,(B.out.setCell (p:=⟨N,5,none⟩) (by rw[EN.out];exact Nat.le_refl _) _).le (by go_grown),_,rfl⟩
theorem Ag7 (w:World):Calls Tryz.prog 18 #[.int .i64 1] w (Ret w Jg):=by
 have F:=Avp (fun w1=>Ame w1)
 go_enter Tryz.func18,Tryz.ntmps18
 go_wp2_with fail
 refine(F.out _).mono ?_
 rintro _ w1 ⟨_,rfl,hb1,p,rfl⟩
 have B1:=Avp hb1
 clear hb1 F
 go_wp2
 refine bodyPost_ret (v:=.tuple #[.pointer (some p),.int .i64 0]) (by simp[results,Tryz.results18,go_sem]) rfl ?_
 exact⟨_,rfl,B1.out,_,rfl⟩
theorem Ahb (w:World):Calls Tryz.prog 57 #[.agg #[.int .i64 1,.int .i64 1,.int .i64 3,.int .i64 2]] w (Ret w Jg):=by
 have X:=Avp (Bx.new w #[.int .i64 1,.int .i64 1,.int .i64 3,.int .i64 2] 36)
 have B:=Avp (show Below w.heap.size w (w.alloc (.cells #[.int .i64 1,.int .i64 1,.int .i64 3,.int .i64 2] 36)) by go_grown)
 have x0:=X.out.cell 0 rfl;have x1:=X.out.cell 1 rfl;have x2:=X.out.cell 2 rfl;have x3:=X.out.cell 3 rfl
 go_enter Tryz.func57,Tryz.ntmps57
 go_wp2_with fail
 refine(Asm _).mono ?_
 rintro _ w2 ⟨_,rfl,hb2,pn,rfl⟩
 replace X:=Avp (X.out.mono hb2);replace B:=Avp (B.out.le hb2)
 clear hb2 x0 x1 x2 x3
 have x1:=X.out.cell 1 rfl
 go_wp2_with fail
 refine(Ai4 w2).mono ?_
 rintro _ w3 ⟨_,rfl,hb3,pl,rfl⟩
 replace B:=Avp (B.out.le hb3)
 clear hb3 x1 X
 go_wp2_with fail
 refine(Ajj w3).mono ?_
 rintro _ w4 ⟨_,rfl,hb4,pm,rfl⟩
 replace B:=Avp (B.out.le hb4)
 clear hb4
 go_wp2_with fail
 refine(Ag7 w4).mono ?_
 rintro _ w5 ⟨_,rfl,hb5,pf,rfl⟩
 replace B:=Avp (B.out.le hb5)
 clear hb5
 go_wp2
 refine bodyPost_ret (v:=.tuple #[.pointer (some ⟨w5.heap.size+1,0,none⟩),.int .i64 0]) (by simp[results,Tryz.results57,go_sem]) rfl ?_
 exact⟨_,rfl,B.out.le (by go_grown),_,rfl⟩
end Go.Proofs.YthnbhjpahlceeaaGreatDoor
namespace Go.Proofs.YthnbhjpahlceeaaGreatDoor
open Go.RowKit Go.Maps
abbrev TS:=Int×Int
def Gq (f:Nat->TS) (t:Int):Nat->Option Nat
 | 0=>none
 | k+1=>if (f k).1=t∧(f k).2=1 then some k else Gq f t k
def Ys (m:Int) (k:Nat):Option Nat->Int
 | some j=>max m ((k:Int) - j)
 | none=>m
def Je (f:Nat->TS):Nat->Int
 | 0=>0
 | k+1=>if (f k).2=6 then Ys (Je f k) k (Gq f (f k).1 k) else Je f k
theorem Q4 {f:Nat->TS} {t:Int}:∀ {k j:Nat},Gq f t k=some j->j<k∧(f j).1=t∧(f j).2=1
 | 0,j,h=>by cases h
 | k+1,j,h=>by
  unfold Gq at h
  split at h
  ·rename_i g
   cases h
   exact⟨Nat.lt_succ_self _,g.1,g.2⟩
  ·have:=Q4 h
   exact⟨by omega,this.2⟩
theorem Ald {m:Int} {k:Nat} {o:Option Nat} (h:0<=m∧m<=k) (ho:∀ j,o=some j->j<k):0<=Ys m k o∧Ys m k o<=k:=by
 cases o with
 | none=>exact h
 | some j=>
  have:=ho j rfl
  show 0<=max m ((k:Int) - j)∧max m ((k:Int) - j)<=k
  rw[Int.max_def]
  split <;> omega
theorem Acx (f:Nat->TS):∀ k,0<=Je f k∧Je f k<=k
 | 0=>by simp[Je]
 | k+1=>by
  have:=Acx f k
  unfold Je
  split
  ·have:=Ald this (fun j h=>(Q4 h).1:∀ j,Gq f (f k).1 k=some j->j<k)
   omega
  ·omega
abbrev DUF:=DataW Unit
abbrev Ym (c:Int):DUF:=.lit (.int .i64 c)
theorem Kp {a b:Int} (h:Ym a=Ym b):a=b:=by cases h;rfl
theorem Zu (x:Int):WideAt.IsKeyLit (.int .i64 x):=trivial
structure Ga (D:DUF) (f:Nat->TS) (k:Nat):Prop where
 isMap:Maps.IsMap D
 keys:∀ r,Maps.has D (.int .i64 r)=(Gq f r k).isSome
 vals:∀ r j,Gq f r k=some j->D.atKey (.int .i64 r) (Ym 0)=Ym j
theorem Ga.nil_ (f:Nat->TS):Ga (.map []) f 0:=⟨Maps.isMap_empty,fun _=>rfl,fun _ _ h=>nomatch h⟩
theorem Ga.skip {D:DUF} {f:Nat->TS} {k:Nat} (h:Ga D f k) (hk:(f k).2≠1):Ga D f (k+1):=by
 have e:∀ r,Gq f r (k+1)=Gq f r k:=fun r=>by rw[Gq,if_neg (fun h=>hk h.2)]
 exact⟨h.isMap,fun r=>by rw[e];exact h.keys r,fun r j hj=>h.vals r j (by rw[<-e];exact hj)⟩
theorem Ga.put {D:DUF} {f:Nat->TS} {k:Nat} (h:Ga D f k) (hk:(f k).2=1):Ga (D.put (.int .i64 (f k).1) (Ym k)) f (k+1):=by
 refine⟨h.isMap.put _ _,fun r=>?_,fun r j hj=>?_⟩
 ·by_cases e:r=(f k).1
  ·subst e
   rw[Maps.has_put_same h.isMap (Zu _),Gq,if_pos ⟨rfl,hk⟩];rfl
  ·rw[Maps.has_put_other (fun h=>e (by cases h;rfl)),h.keys r,Gq,if_neg (fun h=>e h.1.symm)]
 ·by_cases e:r=(f k).1
  ·subst e
   rw[Gq,if_pos ⟨rfl,hk⟩] at hj
   cases hj
   rw[Maps.atKey_put_same h.isMap (Zu _)]
  ·rw[Gq,if_neg (fun h=>e h.1.symm)] at hj
   rw[Maps.atKey_put_other (fun h=>e (by cases h;rfl)),h.vals r j hj]
theorem Pd:Keyed Tryz.prog 3:=int_keyed Tryz.underlying3
theorem Vf (w:World):(zeroValue 3).run Tryz.prog w = .ok (.int .i64 0) w:=by kernel_rfl
def Hk (s:TS) (v:Nat->Value):List Value:=[.int .i64 s.1,.int .i64 s.2,v 2,v 3,v 4,v 5,v 6,v 7,v 8,v 9,v 10,v 11,v 12,v 13,v 14,v 15,v 16,v 17]
def Ap8 (v:Nat->Value):Prop:=∀ j,(v j).oneCell'=true
structure Tr (w:World) (A:Option Addr) (n c:Nat) (f:Nat->TS):Prop where
 cap:n<=c
 max:c<=maxLen
 nil:A=none->c=0
 cell:∀ i,i<n->∃ b o v,A=some ⟨b,o,none⟩∧w.rangeAt b (o+i*18) (Hk (f i) v)∧Ap8 v
 wf:∀ i,i<n->(Lit.int .i64 (f i).1).wf=true
section
variable {w w':World} {A:Option Addr} {n c:Nat} {f:Nat->TS}
theorem Tr.mono (h:Tr w A n c f) (hb:Below w.heap.size w w'):Tr w' A n c f:=⟨h.cap,h.max,h.nil,fun i hi=>let ⟨b,o,v,e,hr,h1⟩:=h.cell i hi;⟨b,o,v,e,Ad9 hr hb,h1⟩,h.wf⟩
theorem Tr.big (h:Tr w A n c f):n<=9223372036854775807:=by have:=h.cap;have:=h.max;unfold maxLen at this;omega
end
theorem Pw {s:TS} {v:Nat->Value} (h:Ap8 v):(#[.int .i64 s.1,.int .i64 s.2,v 2,v 3,v 4,v 5,v 6,v 7,v 8,v 9,v 10,v 11,v 12,v 13,v 14,v 15,v 16,v 17]:Array Value).all (·.oneCell')=true:=by
 have h2:∀ j,Value.oneCell' (v j)=true:=h
 simp[show ∀ (a:Int),Value.oneCell' (.int .i64 a)=true from fun _=>rfl,h2]
theorem Te {b n:Nat} {D:DUF} {w w':World} (h:w.ownsMap Tryz.prog 3 (plainElem Tryz.prog 3) b n D) (hb:Below w.heap.size w w'):w'.ownsMap Tryz.prog 3 (plainElem Tryz.prog 3) b n D:=by
 have hlt:=h.lt
 obtain⟨es,clock,hb0,F,hs,hD⟩:=h
 exact⟨es,clock,(hb.block b hlt).trans hb0,F,hs,hD⟩
theorem Ado {m:Int} {k j:Nat} {c0:Int} (hm:0<=m∧m<=k) (hj:j<k) (hk:k<=1000000) (hc:c0=j):(if m<wrap64 ((k:Int) - c0) then wrap64 ((k:Int) - c0) else m)=Ys m k (some j):=by
 subst hc
 have e:wrap64 ((k:Int) - j)=k - j:=by unfold wrap64;omega
 show _=max m ((k:Int) - j)
 rw[e,Int.max_def]
 split <;> split <;> omega
theorem Ajd {m:Int} {k j:Nat} {c0:Int} (hm:0<=m∧m<=k) (hj:j<k) (hk:k<=1000000) (hc:c0=j):(if m<(k:Int) - c0 then (k:Int) - c0 else m)=Ys m k (some j):=by
 have:=Ado hm hj hk hc
 rwa [show wrap64 ((k:Int) - c0)=k - c0 by subst hc;unfold wrap64;omega] at this
theorem Aku {m:Int} {k j:Nat} {c0:Int} (hm:0<=m∧m<=k) (hj:j<k) (hk:k<=1000000) (hc:c0=j):max m (wrap64 ((k:Int) - c0))=Ys m k (some j):=by
 rw[show wrap64 ((k:Int) - c0)=k - j by subst hc;unfold wrap64;omega]
 rfl
theorem Ak7 {m:Int} {k j:Nat} {c0:Int} (hm:0<=m∧m<=k) (hj:j<k) (hk:k<=1000000) (hc:c0=j):max m ((k:Int) - c0)=Ys m k (some j):=by
 subst hc;rfl
theorem Ajn {k:Nat} (h:k<=1000000):(Lit.int .i64 (k:Int)).wf=true:=WalkArith.wf_i64 (by omega)
def Avg (w:World) (n:Nat) (f:Nat->TS) (u i:Value) (wr:World):Prop:=
 ∃ (k:Nat) (D:DUF),i = .int .i64 k∧u = .int .i64 (Je f k)∧k<=n∧wr.ownsMap Tryz.prog 3 (plainElem Tryz.prog 3) w.heap.size k D∧Below w.heap.size w wr∧Ga D f k
theorem Agw (A : Option Addr) (n c : Nat) (f : Nat -> TS) (w : World) (h : Tr w A n c f) (hn : n <= 100000) :
    Calls Tryz.prog 51 #[.slice A n c] w (Ret w (Is (.tuple #[.int .i64 (Je f n), .int .i64 0]))) := by
  have hmm := @run_makeMap Tryz.prog
  have d0 : decide ((100000 : Int) < (n : Int)) = false := decide_eq_false (by omega)
  have HN := Avp hn
  have H := Avp h; have HBG := h.big; clear h hn
  go_enter Tryz.func51, Tryz.ntmps51
  go_wp2
  clear d0
  go_loopw [5, 16] (fun u i wr => Avg w n f u i wr) (fun _ i _ => n - (intOf i).toNat)
  case atStart => exact ⟨0, .map [], rfl, rfl, Nat.zero_le _, World.ownsMap_made _ _ _ _, (Below.refl _ _).alloc (Nat.le_refl _) _, Ga.nil_ f⟩
  case round =>
    obtain ⟨k, D, rfl, rfl, hk, hown, hb, hm⟩ := hrel
    have OWN := Avp hown; have HB := Avp hb; have HM := Avp hm
    clear hown hb hm
    by_cases hlt : k < n
    · obtain ⟨b, o, v, rfl, hr, hone⟩ := (H.out.mono HB.out).cell k hlt
      have ONE := Avp hone
      have hbox := Ale wr #[.int .i64 0, .int .i64 0, .int .i64 0, .bool false, .int .i64 0, .slice none 0 0, .bool false, .int .i64 0, .string ⟨#[]⟩, .string ⟨#[]⟩, .string ⟨#[]⟩, .int .i64 0, .slice none 0 0, .int .i64 0, .int .i64 0, .int .i64 0, .slice none 0 0, .slice none 0 0] 62 (Hk (f k) v) rfl
      obtain ⟨W2, hW2⟩ : ∃ W2, W2 = (wr.alloc (.cells #[.int .i64 0, .int .i64 0, .int .i64 0, .bool false, .int .i64 0, .slice none 0 0, .bool false, .int .i64 0, .string ⟨#[]⟩, .string ⟨#[]⟩, .string ⟨#[]⟩, .int .i64 0, .slice none 0 0, .int .i64 0, .int .i64 0, .int .i64 0, .slice none 0 0, .slice none 0 0] 62)).setCells wr.heap.size 0 (Hk (f k) v) := ⟨_, rfl⟩
      rw [<- hW2] at hbox
      have HW2 := Avp hW2
      have C0 := Avp (show W2.cell? ⟨wr.heap.size, 0, none⟩ = some (.int .i64 (f k).1) from hbox.2 0 _ rfl)
      have C1 := Avp (show W2.cell? ⟨wr.heap.size, 1, none⟩ = some (.int .i64 (f k).2) from hbox.2 1 _ rfl)
      have HB2 := Avp (HB.out.le hbox.1)
      have OWN0 := Avp (Te OWN.out hbox.1)
      clear hbox hW2 hone
      clear OWN
      have OWN := OWN0
      have R := Avp hr
      have WFT := Avp (H.out.wf k hlt)
      have WFK := Avp (Ajn (k := k) (by have := HN.out; omega))
      have hle := Acx f k
      have LE := Avp hle
      clear hr hle
      by_cases h1 : (f k).2 = 1
      · have H1 := Avp h1
        have LS := Avp (show Je f (k + 1) = Je f k by rw [Je, if_neg (by rw [h1]; decide)])
        replace C1 := Avp (C1.out.trans (by rw [h1]) : W2.cell? ⟨wr.heap.size, 1, none⟩ = some (.int .i64 1))
        clear h1
        go_wp2_with (first
          | (refine wpList_load_mid rfl 62 _ rfl _ _ rfl _ _ R.out Tryz.underlying62 rfl (show (Tryz.prog.info? 62).map (·.size) = some 18 by kernel_rfl) ?_; simp only [Hk, Act.put, List.setIfInBounds_toArray, List.set_cons_zero, List.set_cons_succ])
          | (refine wpList_store_mid rfl 62 _ _ rfl wr.heap.size 0 #[.int .i64 (f k).1, .int .i64 (f k).2, v 2, v 3, v 4, v 5, v 6, v 7, v 8, v 9, v 10, v 11, v 12, v 13, v 14, v 15, v 16, v 17] rfl rfl (Ip wr _ _) (show (Tryz.prog.info? 62).map (·.size) = some 18 by kernel_rfl) (Pw (s := f k) ONE.out) ?_;
             simp only [Act.put, List.setIfInBounds_toArray, List.set_cons_zero, List.set_cons_succ];
             refine Jf HW2.out ?_; have x0 := C0.out; have x1 := C1.out)
          | (at_mapUpdate; refine wpList_mapUpdate_own _ rfl _ _ _ 161 rfl 3 3 Pd Tryz.underlying161 _ w.heap.size k _ rfl OWN.out (by have := HN.out; unfold maxLen; omega) _ _ _ rfl rfl (keyOf_int_mk Tryz.underlying3 WFT.out) _ [] (plainElem_int Tryz.underlying3 WFK.out) ?_; intro w1 hown1 hgrow1; have OWN1 := Avp hown1; have HG1 := Avp hgrow1; clear hown1 hgrow1)
          | (at_lookup; refine wpList_lookup_own_ok_int _ rfl _ _ 161 rfl 3 3 .i64 Pd Tryz.underlying161 Tryz.underlying3 (Vf _) w.heap.size k _ rfl OWN.out _ _ rfl (keyOf_int_mk Tryz.underlying3 WFT.out) ?_; intro c0 hat hwc; have HAT := Avp hat; have HWC := Avp hwc; clear hat hwc; rw [HAS.out])
          | go_in)
        go_roundw
        case rel => exact ⟨k + 1, _, by simp, by rw [LS.out], hlt, OWN1.out, HB2.out.grown HG1.out HB2.out.size (fun q hq => by cases hq; exact Nat.le_refl _), HM.out.put H1.out⟩
        case measure => simp [intOf]; omega
      · by_cases h6 : (f k).2 = 6
        · have H1 := Avp h1; have H6 := Avp h6
          have e6 : Je f (k + 1) = Ys (Je f k) k (Gq f (f k).1 k) := by rw [Je, if_pos h6]
          have E6 := Avp e6
          replace C1 := Avp (C1.out.trans (by rw [h6]) : W2.cell? ⟨wr.heap.size, 1, none⟩ = some (.int .i64 6))
          clear h1 h6 e6
          cases hl : Gq f (f k).1 k with
          | none =>
            have HAS := Avp (show Maps.has D (.int .i64 (f k).1) = false by rw [HM.out.keys, hl]; rfl)
            have HL := Avp hl
            clear hl
            go_wp2_with (first
              | (refine wpList_load_mid rfl 62 _ rfl _ _ rfl _ _ R.out Tryz.underlying62 rfl (show (Tryz.prog.info? 62).map (·.size) = some 18 by kernel_rfl) ?_; simp only [Hk, Act.put, List.setIfInBounds_toArray, List.set_cons_zero, List.set_cons_succ])
              | (refine wpList_store_mid rfl 62 _ _ rfl wr.heap.size 0 #[.int .i64 (f k).1, .int .i64 (f k).2, v 2, v 3, v 4, v 5, v 6, v 7, v 8, v 9, v 10, v 11, v 12, v 13, v 14, v 15, v 16, v 17] rfl rfl (Ip wr _ _) (show (Tryz.prog.info? 62).map (·.size) = some 18 by kernel_rfl) (Pw (s := f k) ONE.out) ?_;
                 simp only [Act.put, List.setIfInBounds_toArray, List.set_cons_zero, List.set_cons_succ];
                 refine Jf HW2.out ?_; have x0 := C0.out; have x1 := C1.out)
              | (at_mapUpdate; refine wpList_mapUpdate_own _ rfl _ _ _ 161 rfl 3 3 Pd Tryz.underlying161 _ w.heap.size k _ rfl OWN.out (by have := HN.out; unfold maxLen; omega) _ _ _ rfl rfl (keyOf_int_mk Tryz.underlying3 WFT.out) _ [] (plainElem_int Tryz.underlying3 WFK.out) ?_; intro w1 hown1 hgrow1; have OWN1 := Avp hown1; have HG1 := Avp hgrow1; clear hown1 hgrow1)
              | (at_lookup; refine wpList_lookup_own_ok_int _ rfl _ _ 161 rfl 3 3 .i64 Pd Tryz.underlying161 Tryz.underlying3 (Vf _) w.heap.size k _ rfl OWN.out _ _ rfl (keyOf_int_mk Tryz.underlying3 WFT.out) ?_; intro c0 hat hwc; have HAT := Avp hat; have HWC := Avp hwc; clear hat hwc; rw [HAS.out])
              | go_in)
            go_roundw
            case rel => exact ⟨k + 1, _, by simp, by rw [E6.out, HL.out]; rfl, hlt, OWN.out.mono (Nat.le_succ _), HB2.out, HM.out.skip (by rw [H6.out]; decide)⟩
            case measure => simp [intOf]; omega
          | some j =>
            have HAS := Avp (show Maps.has D (.int .i64 (f k).1) = true by rw [HM.out.keys, hl]; rfl)
            have HL := Avp hl
            have hj := (Q4 hl).1
            have HJ := Avp hj
            clear hj
            have VAL := Avp (HM.out.vals _ _ hl)
            clear hl
            go_wp2_with (first
              | (refine wpList_load_mid rfl 62 _ rfl _ _ rfl _ _ R.out Tryz.underlying62 rfl (show (Tryz.prog.info? 62).map (·.size) = some 18 by kernel_rfl) ?_; simp only [Hk, Act.put, List.setIfInBounds_toArray, List.set_cons_zero, List.set_cons_succ])
              | (refine wpList_store_mid rfl 62 _ _ rfl wr.heap.size 0 #[.int .i64 (f k).1, .int .i64 (f k).2, v 2, v 3, v 4, v 5, v 6, v 7, v 8, v 9, v 10, v 11, v 12, v 13, v 14, v 15, v 16, v 17] rfl rfl (Ip wr _ _) (show (Tryz.prog.info? 62).map (·.size) = some 18 by kernel_rfl) (Pw (s := f k) ONE.out) ?_;
                 simp only [Act.put, List.setIfInBounds_toArray, List.set_cons_zero, List.set_cons_succ];
                 refine Jf HW2.out ?_; have x0 := C0.out; have x1 := C1.out)
              | (at_mapUpdate; refine wpList_mapUpdate_own _ rfl _ _ _ 161 rfl 3 3 Pd Tryz.underlying161 _ w.heap.size k _ rfl OWN.out (by have := HN.out; unfold maxLen; omega) _ _ _ rfl rfl (keyOf_int_mk Tryz.underlying3 WFT.out) _ [] (plainElem_int Tryz.underlying3 WFK.out) ?_; intro w1 hown1 hgrow1; have OWN1 := Avp hown1; have HG1 := Avp hgrow1; clear hown1 hgrow1)
              | (at_lookup; refine wpList_lookup_own_ok_int _ rfl _ _ 161 rfl 3 3 .i64 Pd Tryz.underlying161 Tryz.underlying3 (Vf _) w.heap.size k _ rfl OWN.out _ _ rfl (keyOf_int_mk Tryz.underlying3 WFT.out) ?_; intro c0 hat hwc; have HAT := Avp hat; have HWC := Avp hwc; clear hat hwc; rw [HAS.out])
              | go_in)
            go_roundw
            case rel => exact ⟨k + 1, _, by simp, by rw [E6.out, HL.out]; first | exact congrArg (Value.int .i64) (Ado LE.out HJ.out (by have := HN.out; omega) (Kp (HAT.out.symm.trans VAL.out))) | exact congrArg (Value.int .i64) (Ajd LE.out HJ.out (by have := HN.out; omega) (Kp (HAT.out.symm.trans VAL.out))) | exact congrArg (Value.int .i64) (Aku LE.out HJ.out (by have := HN.out; omega) (Kp (HAT.out.symm.trans VAL.out))) | exact congrArg (Value.int .i64) (Ak7 LE.out HJ.out (by have := HN.out; omega) (Kp (HAT.out.symm.trans VAL.out))), hlt, OWN.out.mono (Nat.le_succ _), HB2.out, HM.out.skip (by rw [H6.out]; decide)⟩
            case measure => simp [intOf]; omega
        · have H1 := Avp h1; have H6 := Avp h6
          have LS := Avp (show Je f (k + 1) = Je f k by rw [Je, if_neg h6])
          go_wp2_with (first
            | (refine wpList_load_mid rfl 62 _ rfl _ _ rfl _ _ R.out Tryz.underlying62 rfl (show (Tryz.prog.info? 62).map (·.size) = some 18 by kernel_rfl) ?_; simp only [Hk, Act.put, List.setIfInBounds_toArray, List.set_cons_zero, List.set_cons_succ])
            | (refine wpList_store_mid rfl 62 _ _ rfl wr.heap.size 0 #[.int .i64 (f k).1, .int .i64 (f k).2, v 2, v 3, v 4, v 5, v 6, v 7, v 8, v 9, v 10, v 11, v 12, v 13, v 14, v 15, v 16, v 17] rfl rfl (Ip wr _ _) (show (Tryz.prog.info? 62).map (·.size) = some 18 by kernel_rfl) (Pw (s := f k) ONE.out) ?_;
               simp only [Act.put, List.setIfInBounds_toArray, List.set_cons_zero, List.set_cons_succ];
               refine Jf HW2.out ?_; have x0 := C0.out; have x1 := C1.out)
            | (at_mapUpdate; refine wpList_mapUpdate_own _ rfl _ _ _ 161 rfl 3 3 Pd Tryz.underlying161 _ w.heap.size k _ rfl OWN.out (by have := HN.out; unfold maxLen; omega) _ _ _ rfl rfl (keyOf_int_mk Tryz.underlying3 WFT.out) _ [] (plainElem_int Tryz.underlying3 WFK.out) ?_; intro w1 hown1 hgrow1; have OWN1 := Avp hown1; have HG1 := Avp hgrow1; clear hown1 hgrow1)
            | (at_lookup; refine wpList_lookup_own_ok_int _ rfl _ _ 161 rfl 3 3 .i64 Pd Tryz.underlying161 Tryz.underlying3 (Vf _) w.heap.size k _ rfl OWN.out _ _ rfl (keyOf_int_mk Tryz.underlying3 WFT.out) ?_; intro c0 hat hwc; have HAT := Avp hat; have HWC := Avp hwc; clear hat hwc; rw [HAS.out])
            | go_in)
          go_roundw
          case rel => exact ⟨k + 1, _, by simp, by rw [LS.out], hlt, OWN.out.mono (Nat.le_succ _), HB2.out, HM.out.skip H1.out⟩
          case measure => simp [intOf]; omega
    · have hkn : k = n := by omega
      subst hkn
      go_wp2
      refine bodyPost_ret (v := .tuple #[.int .i64 (Je f k), .int .i64 0]) (by simp [results, Tryz.results51, go_sem]) rfl ?_
      exact ⟨_, rfl, HB.out, rfl⟩
end Go.Proofs.YthnbhjpahlceeaaGreatDoor
namespace Go.Proofs.YthnbhjpahlceeaaGreatDoor
open Go.RowKit
theorem Apl (A:Option Addr) (n c:Nat) (f:Nat->TS) (want:Int) (w:World) (h:Tr w A n c f) (hn:n<=100000) (hw:Je f n=want) :
  Calls Tryz.prog 25 #[.slice A n c,.int .i64 want,.int .i64 0] w (Ret w (IsB true)):=by
 have C:=Avp (Agw A n c f w h hn)
 rw[hw] at C
 clear h hn hw
 go_enter Tryz.func25,Tryz.ntmps25
 go_wp2_with fail
 refine C.out.mono ?_
 rintro _ w1 ⟨_,rfl,hb1,rfl⟩
 go_wp2
 go_ret
 exact retB' (by simp) hb1
def Ep:Ce:=⟨4,[97],[],[],0,[]⟩
def addCl:Ce:=⟨1,[97],[],[120],1,[]⟩
def H8:Ce:=⟨8,[],[],[],0,[]⟩
def Ad1:Ce:=⟨9,[],[],[],0,[]⟩
theorem Agc:En Ad1=false:=by decide
theorem Zl (k:Nat):Es Ep k=0:=by unfold Es;rw[show Bw Ep=false by decide];rfl
theorem Aj2 (k:Nat):Es H8 k=0:=by unfold Es;rw[show Bw H8=false by decide];rfl
theorem Ze:Cz addCl=[[97]]:=by
 unfold Cz
 rw[show Br addCl=true by decide,if_pos rfl,show Ef [addCl.key,addCl.other]=[[97]] by decide,Un]
theorem Aeo:Es addCl 4=1:=by
 unfold Es
 rw[show Bw addCl=true by decide,if_pos rfl,Ze];decide +kernel
theorem Afu:Es addCl 1=1:=by
 unfold Es
 rw[show Bw addCl=true by decide,if_pos rfl,Ze];decide +kernel
theorem Arh (w:World):Sl encB w none 0 0 ([]:List UInt8):=Sl.nil_ _ _
structure GP (w:World):Prop where
 g:Cr w
 p:Ke w
theorem GP.mono {w w':World} (h:GP w) (hb:Below w.heap.size w w'):GP w':=⟨h.g.mono hb,h.p.mono hb⟩
theorem GP.lt {w:World} (h:GP w):2<w.heap.size∧1<w.heap.size:=⟨h.g.nm.lt,h.g.sm.lt⟩
theorem Nb {w:World} (c:Ce) (k z:Nat) (h:GP w) (hd:c.data=[]) (hk:c.key.length<=300∧c.other.length<=300∧c.item.length<=300) (ht:En c=true) (h1:1<=k∧k<=1024) (hz:Es c k=z):Calls Tryz.prog 49 #[Aq c none c.data.length 0,.int .i64 (k:Int)] w (Ret w (Ih (Dp z) 0)):=by
 subst hz
 exact Yr c none 0 k h.g h.p h.lt hk.1 hk.2.1 hk.2.2 (by rw[hd];exact Arh w) (by rw[hd];simp) ht h1.1 h1.2
theorem Ajf {w:World} (c:Ce) (s:Int) (h:GP w) (hd:c.data=[]) (hk:c.key.length<=300∧c.other.length<=300∧c.item.length<=300) (hn:En c=false∨s<1∨1024<s):Calls Tryz.prog 49 #[Aq c none c.data.length 0,.int .i64 s] w (Ret w (Ih [] 2)):=
 Pz c none 0 s h.g h.lt hk.1 hk.2.1 hk.2.2 (by rw[hd];exact Arh w) (by rw[hd];simp) hn
theorem Abi {w:World} (h:GP w):Calls Tryz.prog 9 #[Aq Ep none 0 0,.int .i64 4,.int .i64 ((Dp 0).length:Nat),.int .i64 0] w (Ret w (IsB true)):=
 Kc Ep none 0 4 0 (Dp 0) (fun w1 hb=>Nb Ep 4 0 (h.mono hb) rfl (by decide) (by decide) (by omega) (Zl 4)) (by decide)
theorem Aa9 {w:World} (h:GP w):Calls Tryz.prog 9 #[Aq addCl none 0 0,.int .i64 4,.int .i64 ((Dp 1).length:Nat),.int .i64 0] w (Ret w (IsB true)):=
 Kc addCl none 0 4 0 (Dp 1) (fun w1 hb=>Nb addCl 4 1 (h.mono hb) rfl (by decide) (by decide) (by omega) (Aeo)) (by decide)
theorem Aem {w:World} (h:GP w):Calls Tryz.prog 9 #[Aq Ad1 none 0 0,.int .i64 4,.int .i64 0,.int .i64 2] w (Ret w (IsB true)):=
 Kc Ad1 none 0 4 2 [] (fun w1 hb=>Ajf Ad1 4 (h.mono hb) rfl (by decide) (.inl Agc)) (by simp)
theorem Aa7 {w:World} (h:GP w):Calls Tryz.prog 9 #[Aq Ep none 0 0,.int .i64 0,.int .i64 0,.int .i64 2] w (Ret w (IsB true)):=
 Kc Ep none 0 0 2 [] (fun w1 hb=>Ajf Ep 0 (h.mono hb) rfl (by decide) (.inr (.inl (by omega)))) (by simp)
theorem Xg {w:World} (h:GP w):Calls Tryz.prog 27 #[Aq Ep none 0 0,.int .i64 1] w (Ret w (Is (.tuple #[.int .i64 ((Dp 0).length:Nat),.int .i64 0]))):=
 Vv Ep none 0 1 0 (Dp 0) (fun w1 hb=>Nb Ep 1 0 (h.mono hb) rfl (by decide) (by decide) (by omega) (Zl 1)) (by decide)
theorem Yp {w:World} (h:GP w):Calls Tryz.prog 27 #[Aq addCl none 0 0,.int .i64 1] w (Ret w (Is (.tuple #[.int .i64 ((Dp 1).length:Nat),.int .i64 0]))):=
 Vv addCl none 0 1 0 (Dp 1) (fun w1 hb=>Nb addCl 1 1 (h.mono hb) rfl (by decide) (by decide) (by omega) (Afu)) (by decide)
theorem Xs {w:World} (h:GP w):Calls Tryz.prog 27 #[Aq H8 none 0 0,.int .i64 1] w (Ret w (Is (.tuple #[.int .i64 ((Dp 0).length:Nat),.int .i64 0]))):=
 Vv H8 none 0 1 0 (Dp 0) (fun w1 hb=>Nb H8 1 0 (h.mono hb) rfl (by decide) (by decide) (by omega) (Aj2 1)) (by decide)
theorem Ahx (w:World):Calls Tryz.prog 58 #[Aq Ep none 0 0] w (Ret w (IsI 0)):=by
 unfold Aq Ep
 simp only
 have B:=Avp (show ∀ cs:Array Value,Below w.heap.size w (w.alloc (.cells cs 25)) from fun cs=>by go_grown)
 go_enter Tryz.func58,Tryz.ntmps58
 go_wp2
 go_ret
 exact⟨_,rfl,B.out _,rfl⟩
theorem Ai6 (w:World):Calls Tryz.prog 58 #[Aq addCl none 0 0] w (Ret w (IsI 0)):=by
 unfold Aq addCl
 simp only
 have B:=Avp (show ∀ cs:Array Value,Below w.heap.size w (w.alloc (.cells cs 25)) from fun cs=>by go_grown)
 go_enter Tryz.func58,Tryz.ntmps58
 go_wp2
 go_ret
 exact⟨_,rfl,B.out _,rfl⟩
theorem Aij {w:World} (h:GP w):Calls Tryz.prog 58 #[Aq H8 none 0 0] w (Ret w (IsI 0)):=by
 have D:=Avp (fun(w1:World) (hb:Below w.heap.size w w1)=>Mq (Arh w1) (by simp) (h.g.nm.mono hb))
 rw[show Gy []=none by decide] at D
 unfold Aq H8
 simp only
 have B:=Avp (show ∀ cs:Array Value,Below w.heap.size w (w.alloc (.cells cs 25)) from fun cs=>by go_grown)
 clear h
 go_enter Tryz.func58,Tryz.ntmps58
 go_wp2_with fail
 refine(D.out _ (B.out _)).mono ?_
 rintro _ w1 ⟨hb1,rfl⟩
 have B1:=Avp ((B.out _).le hb1)
 clear hb1 D
 go_wp2
 go_ret
 exact⟨_,rfl,B1.out,rfl⟩
theorem Ani {w:World} (h:GP w):Calls Tryz.prog 59 #[Aq Ep none 0 0] w (Ret w (IsB false)):=by
 have:=(show Calls Tryz.prog 59 #[Aq Ep none 0 0] w (Ret w (IsB (Bw Ep))) from Hn Ep none 0 h.p)
 rwa [show Bw Ep=false by decide] at this
theorem All {w:World} (h:GP w):Calls Tryz.prog 59 #[Aq addCl none 0 0] w (Ret w (IsB true)):=by
 have:=(show Calls Tryz.prog 59 #[Aq addCl none 0 0] w (Ret w (IsB (Bw addCl))) from Hn addCl none 0 h.p)
 rwa [show Bw addCl=true by decide] at this
theorem Alj {w:World} (h:GP w):Calls Tryz.prog 59 #[Aq H8 none 0 0] w (Ret w (IsB false)):=by
 have:=(show Calls Tryz.prog 59 #[Aq H8 none 0 0] w (Ret w (IsB (Bw H8))) from Hn H8 none 0 h.p)
 rwa [show Bw H8=false by decide] at this
theorem Alr {w:World} (h:GP w):Calls Tryz.prog 27 #[Aq Ep none 0 0,.int .i64 1] w (Ret w (Is (.tuple #[.int .i64 3,.int .i64 0]))):=by
 have:=(show Calls Tryz.prog 27 #[Aq Ep none 0 0,.int .i64 1] w (Ret w (Is (.tuple #[.int .i64 ((Dp 0).length:Nat),.int .i64 0]))) from Xg h)
 rwa [show(((Dp 0).length:Nat):Int)=3 from rfl] at this
theorem Aov {w:World} (h:GP w):Calls Tryz.prog 27 #[Aq addCl none 0 0,.int .i64 1] w (Ret w (Is (.tuple #[.int .i64 6,.int .i64 0]))):=by
 have:=(show Calls Tryz.prog 27 #[Aq addCl none 0 0,.int .i64 1] w (Ret w (Is (.tuple #[.int .i64 ((Dp 1).length:Nat),.int .i64 0]))) from Yp h)
 rwa [show(((Dp 1).length:Nat):Int)=6 from rfl] at this
theorem Amb {w:World} (h:GP w):Calls Tryz.prog 27 #[Aq H8 none 0 0,.int .i64 1] w (Ret w (Is (.tuple #[.int .i64 3,.int .i64 0]))):=by
 have:=(show Calls Tryz.prog 27 #[Aq H8 none 0 0,.int .i64 1] w (Ret w (Is (.tuple #[.int .i64 ((Dp 0).length:Nat),.int .i64 0]))) from Xs h)
 rwa [show(((Dp 0).length:Nat):Int)=3 from rfl] at this
def threeC:List Value:=[.int .i64 4,Ac [97],Ac [],Ac [],.int .i64 0,.slice none 0 0,.int .i64 1,Ac [97],Ac [],Ac [120],.int .i64 1,.slice none 0 0,.int .i64 8,Ac [],Ac [],Ac [],.int .i64 0,.slice none 0 0]
theorem Aok {w:World} {b:Nat} (h:GP w) (H:Bx w b threeC):Calls Tryz.prog 31 #[.agg #[.int .i64 1,.int .i64 1,.int .i64 3,.int .i64 2],.slice (some ⟨b,0,none⟩) 3 3] w (Ret w (Is (.tuple #[.int .i64 14,.int .i64 0]))):=by
 have H:=Avp H;have G:=Avp h
 clear h
 have X:=Avp (Bx.new w #[.int .i64 1,.int .i64 1,.int .i64 3,.int .i64 2] 36)
 have B:=Avp (show Below w.heap.size w (w.alloc (.cells #[.int .i64 1,.int .i64 1,.int .i64 3,.int .i64 2] 36)) by go_grown)
 have x0:=X.out.cell 0 rfl;have x1:=X.out.cell 1 rfl;have x2:=X.out.cell 2 rfl;have x3:=X.out.cell 3 rfl
 go_enter Tryz.func31,Tryz.ntmps31
 go_wp2_with fail
 refine(Ahb _).mono ?_
 rintro _ w2 ⟨_,rfl,hb2,pc,rfl⟩
 replace X:=Avp (X.out.mono hb2);replace B:=Avp (B.out.le hb2)
 clear hb2 x0 x1 x2 x3
 go_wp2_with fail
 refine wp_loop_rounds 4 ?_
 rw[rounds_succ]
 have XB:=Avp (Bx.new w2 #[.int .i64 4,Ac [97],Ac [],Ac [],.int .i64 0,.slice none 0 0] 25)
 have hbx:Below w2.heap.size w2 (w2.alloc (.cells #[.int .i64 4,Ac [97],Ac [],Ac [],.int .i64 0,.slice none 0 0] 25)):=by go_grown
 have H2:=Avp (H.out.mono B.out)
 have p0:=H2.out.cell (0+0) rfl;have p1:=H2.out.cell (0+1) rfl;have p2:=H2.out.cell (0+2) rfl;have p3:=H2.out.cell (0+3) rfl;have p4:=H2.out.cell (0+4) rfl;have p5:=H2.out.cell (0+5) rfl
 have x1:=X.out.cell 1 rfl;have xlt:=X.out.lt
 go_wp2_with fail
 clear xlt
 replace B:=Avp (B.out.le hbx);replace X:=Avp (X.out.mono hbx)
 clear hbx p0 p1 p2 p3 p4 p5 H2 x1
 refine(Alr (G.out.mono B.out)).mono ?_
 rintro _ w2a ⟨_,rfl,hba,rfl⟩
 replace XB:=Avp (XB.out.mono hba);replace B:=Avp (B.out.le hba);replace X:=Avp (X.out.mono hba)
 clear hba
 have q0:=XB.out.cell 0 rfl;have q1:=XB.out.cell 1 rfl;have q2:=XB.out.cell 2 rfl;have q3:=XB.out.cell 3 rfl;have q4:=XB.out.cell 4 rfl;have q5:=XB.out.cell 5 rfl
 go_wp2_with fail
 refine(Ahx _).mono ?_
 rintro _ w2b ⟨_,rfl,hba,rfl⟩
 replace XB:=Avp (XB.out.mono hba);replace B:=Avp (B.out.le hba);replace X:=Avp (X.out.mono hba)
 clear hba
 clear q0 q1 q2 q3 q4 q5
 have q0:=XB.out.cell 0 rfl;have q1:=XB.out.cell 1 rfl;have q2:=XB.out.cell 2 rfl;have q3:=XB.out.cell 3 rfl;have q4:=XB.out.cell 4 rfl;have q5:=XB.out.cell 5 rfl
 go_wp2_with fail
 refine(Ani (G.out.mono B.out)).mono ?_
 rintro _ w2c ⟨_,rfl,hba,rfl⟩
 replace XB:=Avp (XB.out.mono hba);replace B:=Avp (B.out.le hba);replace X:=Avp (X.out.mono hba)
 clear hba
 clear q0 q1 q2 q3 q4 q5 XB
 go_wp2_with fail
 rw[rounds_succ]
 have XB:=Avp (Bx.new w2c #[.int .i64 1,Ac [97],Ac [],Ac [120],.int .i64 1,.slice none 0 0] 25)
 have hbx:Below w2c.heap.size w2c (w2c.alloc (.cells #[.int .i64 1,Ac [97],Ac [],Ac [120],.int .i64 1,.slice none 0 0] 25)):=by go_grown
 have H2:=Avp (H.out.mono B.out)
 have p0:=H2.out.cell (6+0) rfl;have p1:=H2.out.cell (6+1) rfl;have p2:=H2.out.cell (6+2) rfl;have p3:=H2.out.cell (6+3) rfl;have p4:=H2.out.cell (6+4) rfl;have p5:=H2.out.cell (6+5) rfl
 have x1:=X.out.cell 1 rfl;have xlt:=X.out.lt
 go_wp2_with fail
 clear xlt
 replace B:=Avp (B.out.le hbx);replace X:=Avp (X.out.mono hbx)
 clear hbx p0 p1 p2 p3 p4 p5 H2 x1
 refine(Aov (G.out.mono B.out)).mono ?_
 rintro _ w2ca ⟨_,rfl,hba,rfl⟩
 replace XB:=Avp (XB.out.mono hba);replace B:=Avp (B.out.le hba);replace X:=Avp (X.out.mono hba)
 clear hba
 have q0:=XB.out.cell 0 rfl;have q1:=XB.out.cell 1 rfl;have q2:=XB.out.cell 2 rfl;have q3:=XB.out.cell 3 rfl;have q4:=XB.out.cell 4 rfl;have q5:=XB.out.cell 5 rfl
 go_wp2_with fail
 refine(Ai6 _).mono ?_
 rintro _ w2cb ⟨_,rfl,hba,rfl⟩
 replace XB:=Avp (XB.out.mono hba);replace B:=Avp (B.out.le hba);replace X:=Avp (X.out.mono hba)
 clear hba
 clear q0 q1 q2 q3 q4 q5
 have q0:=XB.out.cell 0 rfl;have q1:=XB.out.cell 1 rfl;have q2:=XB.out.cell 2 rfl;have q3:=XB.out.cell 3 rfl;have q4:=XB.out.cell 4 rfl;have q5:=XB.out.cell 5 rfl
 go_wp2_with fail
 refine(All (G.out.mono B.out)).mono ?_
 rintro _ w2cc ⟨_,rfl,hba,rfl⟩
 replace XB:=Avp (XB.out.mono hba);replace B:=Avp (B.out.le hba);replace X:=Avp (X.out.mono hba)
 clear hba
 clear q0 q1 q2 q3 q4 q5 XB
 go_wp2_with fail
 rw[rounds_succ]
 have XB:=Avp (Bx.new w2cc #[.int .i64 8,Ac [],Ac [],Ac [],.int .i64 0,.slice none 0 0] 25)
 have hbx:Below w2cc.heap.size w2cc (w2cc.alloc (.cells #[.int .i64 8,Ac [],Ac [],Ac [],.int .i64 0,.slice none 0 0] 25)):=by go_grown
 have H2:=Avp (H.out.mono B.out)
 have p0:=H2.out.cell (12+0) rfl;have p1:=H2.out.cell (12+1) rfl;have p2:=H2.out.cell (12+2) rfl;have p3:=H2.out.cell (12+3) rfl;have p4:=H2.out.cell (12+4) rfl;have p5:=H2.out.cell (12+5) rfl
 have x1:=X.out.cell 1 rfl;have xlt:=X.out.lt
 go_wp2_with fail
 clear xlt
 replace B:=Avp (B.out.le hbx);replace X:=Avp (X.out.mono hbx)
 clear hbx p0 p1 p2 p3 p4 p5 H2 x1
 refine(Amb (G.out.mono B.out)).mono ?_
 rintro _ w2cca ⟨_,rfl,hba,rfl⟩
 replace XB:=Avp (XB.out.mono hba);replace B:=Avp (B.out.le hba);replace X:=Avp (X.out.mono hba)
 clear hba
 have q0:=XB.out.cell 0 rfl;have q1:=XB.out.cell 1 rfl;have q2:=XB.out.cell 2 rfl;have q3:=XB.out.cell 3 rfl;have q4:=XB.out.cell 4 rfl;have q5:=XB.out.cell 5 rfl
 go_wp2_with fail
 refine(Aij (G.out.mono B.out)).mono ?_
 rintro _ w2ccb ⟨_,rfl,hba,rfl⟩
 replace XB:=Avp (XB.out.mono hba);replace B:=Avp (B.out.le hba);replace X:=Avp (X.out.mono hba)
 clear hba
 clear q0 q1 q2 q3 q4 q5
 have q0:=XB.out.cell 0 rfl;have q1:=XB.out.cell 1 rfl;have q2:=XB.out.cell 2 rfl;have q3:=XB.out.cell 3 rfl;have q4:=XB.out.cell 4 rfl;have q5:=XB.out.cell 5 rfl
 go_wp2_with fail
 refine(Alj (G.out.mono B.out)).mono ?_
 rintro _ w2ccc ⟨_,rfl,hba,rfl⟩
 replace XB:=Avp (XB.out.mono hba);replace B:=Avp (B.out.le hba);replace X:=Avp (X.out.mono hba)
 clear hba
 clear q0 q1 q2 q3 q4 q5 XB
 go_wp2_with fail
 rw[rounds_succ]
 go_wp2
 refine bodyPost_ret (v:=.tuple #[.int .i64 14,.int .i64 0]) (by simp[results,Tryz.results31,go_sem]) rfl ?_
 exact⟨_,rfl,B.out,rfl⟩
theorem Amn {w:World} {b:Nat} (h:GP w) (H:Bx w b threeC):Calls Tryz.prog 11 #[.agg #[.int .i64 1,.int .i64 1,.int .i64 3,.int .i64 2],.slice (some ⟨b,0,none⟩) 3 3,.int .i64 14,.int .i64 0] w (Ret w (IsB true)):=by
 have B:=Avp (show Below w.heap.size w (w.alloc (.cells #[.int .i64 1,.int .i64 1,.int .i64 3,.int .i64 2] 36)) by go_grown)
 have F:=Avp (fun(w1:World) (hb:Below w.heap.size w w1)=>Aok (h.mono hb) (H.mono hb))
 clear h H
 go_enter Tryz.func11,Tryz.ntmps11
 go_wp2_with fail
 refine(F.out _ B.out).mono ?_
 rintro _ w1 ⟨_,rfl,hb1,rfl⟩
 replace B:=Avp (B.out.le hb1)
 clear hb1 F
 go_wp2
 go_ret
 exact retB' (by simp) B.out
theorem Ams {w:World} (h:GP w):Calls Tryz.prog 9 #[Aq Ep none 0 0,.int .i64 4,.int .i64 3,.int .i64 0] w (Ret w (IsB true)):=Abi h
theorem Alf {w:World} (h:GP w):Calls Tryz.prog 9 #[Aq addCl none 0 0,.int .i64 4,.int .i64 6,.int .i64 0] w (Ret w (IsB true)):=Aa9 h
def vZ (j:Nat):Value:=([.int .i64 0,.int .i64 0,.int .i64 0,.bool false,.int .i64 0,.slice none 0 0,.bool false,.int .i64 0,Ac [],Ac [],Ac [],.int .i64 0,.slice none 0 0,.int .i64 0,.int .i64 0,.int .i64 0,.slice none 0 0,.slice none 0 0]:List Value).getD j (.bool false)
def fT (i:Nat):TS:=([(2,1),(3,1),(2,6),(0,7),(3,6),(4,6)]:List TS).getD i (0,0)
def cT:List Value:=Hk (2,1) vZ++(Hk (3,1) vZ++(Hk (2,6) vZ++(Hk (0,7) vZ++(Hk (3,6) vZ++Hk (4,6) vZ))))
theorem At5 {i j:Nat} {v:Value} (hi:i<6) (h:(Hk (fT i) vZ)[j]?=some v):cT[i*18+j]?=some v:=by
 have hj:j<18:=(List.getElem?_eq_some_iff.1 h).1
 have e:(cT.drop (i*18)).take 18=Hk (fT i) vZ:=by
  have:i=0∨i=1∨i=2∨i=3∨i=4∨i=5:=by omega
  rcases this with rfl | rfl | rfl | rfl | rfl | rfl <;> rfl
 rw[<-e,List.getElem?_take,if_pos hj,List.getElem?_drop] at h
 exact h
theorem Ars:Ap8 vZ:=by
 intro j
 by_cases hj:j<18
 ·have:j=0∨j=1∨j=2∨j=3∨j=4∨j=5∨j=6∨j=7∨j=8∨j=9∨j=10∨j=11∨j=12∨j=13∨j=14∨j=15∨j=16∨j=17:=by omega
  rcases this with rfl | rfl | rfl | rfl | rfl | rfl | rfl | rfl | rfl | rfl | rfl | rfl | rfl | rfl | rfl | rfl | rfl | rfl <;> rfl
 ·unfold vZ
  rw[List.getD_eq_getElem?_getD,List.getElem?_eq_none (by simp;omega)];rfl
theorem trT {w:World} {g:Nat} (h:Bx w g cT):Tr w (some ⟨g,0,none⟩) 6 6 fT:=by
 refine⟨Nat.le_refl _,by unfold maxLen;decide,fun e=>(nomatch e),fun i hi=>⟨g,0,vZ,rfl,fun j v hv=>?_,Ars⟩,fun i hi=>?_⟩
 ·rw[Nat.zero_add]
  exact h.cell _ (At5 hi hv)
 ·have:i=0∨i=1∨i=2∨i=3∨i=4∨i=5:=by omega
  rcases this with rfl | rfl | rfl | rfl | rfl | rfl <;> decide
theorem Atp (w:World):Tr w none 0 0 fT:=⟨Nat.le_refl _,Nat.zero_le _,fun _=>rfl,fun i hi=>absurd hi (Nat.not_lt_zero _),fun i hi=>absurd hi (Nat.not_lt_zero _)⟩
theorem Ap9 {w:World} (h:GP w):Calls Tryz.prog 7 #[] w (Ret w (IsB true)):=by
 have G:=Avp h
 clear h
 obtain⟨w1,hw1⟩:∃ w1,w1=(w.alloc (.cells #[.int .i64 4,Ac [97],Ac [],Ac [],.int .i64 0,.slice none 0 0] 25)).alloc (.cells #[.int .i64 1,Ac [97],Ac [],Ac [120],.int .i64 1,.slice none 0 0] 25):=⟨_,rfl⟩
 have B:=Avp (show Below w.heap.size w w1 by rw[hw1];go_grown)
 have X1:=Avp (show Bx w1 w.heap.size [.int .i64 4,Ac [97],Ac [],Ac [],.int .i64 0,.slice none 0 0] by rw[hw1];exact(Bx.new w #[.int .i64 4,Ac [97],Ac [],Ac [],.int .i64 0,.slice none 0 0] 25).mono (by go_grown))
 have X2:=Avp (show Bx w1 (w.heap.size+1) [.int .i64 1,Ac [97],Ac [],Ac [120],.int .i64 1,.slice none 0 0] by
  rw[hw1];have:=Bx.new (w.alloc (.cells #[.int .i64 4,Ac [97],Ac [],Ac [],.int .i64 0,.slice none 0 0] 25)) #[.int .i64 1,Ac [97],Ac [],Ac [120],.int .i64 1,.slice none 0 0] 25
  rw[World.size_alloc] at this;exact this)
 have HW:=Avp hw1
 clear hw1
 go_enter Tryz.func7,Tryz.ntmps7
 go_wp2_with fail
 rw[<-HW.out]
 clear HW
 refine(Ams (G.out.mono B.out)).mono ?_
 rintro _ w2 ⟨_,rfl,hba,rfl⟩
 replace X1:=Avp (X1.out.mono hba);replace X2:=Avp (X2.out.mono hba);replace B:=Avp (B.out.le hba)
 clear hba
 have r0:=X2.out.cell 0 rfl;have r1:=X2.out.cell 1 rfl;have r2:=X2.out.cell 2 rfl;have r3:=X2.out.cell 3 rfl;have r4:=X2.out.cell 4 rfl;have r5:=X2.out.cell 5 rfl
 go_wp2_with fail
 clear r0 r1 r2 r3 r4 r5
 refine(Alf (G.out.mono B.out)).mono ?_
 rintro _ w3 ⟨_,rfl,hba,rfl⟩
 replace X1:=Avp (X1.out.mono hba);replace X2:=Avp (X2.out.mono hba);replace B:=Avp (B.out.le hba)
 clear hba
 go_wp2_with fail
 refine(Aem (G.out.mono B.out)).mono ?_
 rintro _ w4 ⟨_,rfl,hba,rfl⟩
 replace X1:=Avp (X1.out.mono hba);replace X2:=Avp (X2.out.mono hba);replace B:=Avp (B.out.le hba)
 clear hba
 have q0:=X1.out.cell 0 rfl;have q1:=X1.out.cell 1 rfl;have q2:=X1.out.cell 2 rfl;have q3:=X1.out.cell 3 rfl;have q4:=X1.out.cell 4 rfl;have q5:=X1.out.cell 5 rfl
 go_wp2_with fail
 clear q0 q1 q2 q3 q4 q5
 refine(Aa7 (G.out.mono B.out)).mono ?_
 rintro _ w5 ⟨_,rfl,hba,rfl⟩
 replace X1:=Avp (X1.out.mono hba);replace X2:=Avp (X2.out.mono hba);replace B:=Avp (B.out.le hba)
 clear hba
 have q0:=X1.out.cell 0 rfl;have q1:=X1.out.cell 1 rfl;have q2:=X1.out.cell 2 rfl;have q3:=X1.out.cell 3 rfl;have q4:=X1.out.cell 4 rfl;have q5:=X1.out.cell 5 rfl
 have r0:=X2.out.cell 0 rfl;have r1:=X2.out.cell 1 rfl;have r2:=X2.out.cell 2 rfl;have r3:=X2.out.cell 3 rfl;have r4:=X2.out.cell 4 rfl;have r5:=X2.out.cell 5 rfl
 have H:=Avp (Bx.new w5 threeC.toArray 25)
 have hba:Below w5.heap.size w5 (w5.alloc (.cells threeC.toArray 25)):=by go_grown
 go_wp2_with fail
 clear q0 q1 q2 q3 q4 q5 r0 r1 r2 r3 r4 r5
 replace X1:=Avp (X1.out.mono hba);replace X2:=Avp (X2.out.mono hba);replace B:=Avp (B.out.le hba)
 clear hba
 refine(Amn (b:=w5.heap.size) (G.out.mono B.out) H.out).mono ?_
 rintro _ w6 ⟨_,rfl,hba,rfl⟩
 replace X1:=Avp (X1.out.mono hba);replace X2:=Avp (X2.out.mono hba);replace B:=Avp (B.out.le hba)
 clear hba
 clear H X1 X2
 go_wp2_with fail
 have T:=Avp (trT (Bx.new w6 cT.toArray 62))
 have hba:Below w6.heap.size w6 (w6.alloc (.cells cT.toArray 62)):=by go_grown
 replace B:=Avp (B.out.le hba)
 clear hba
 refine(Apl (some ⟨w6.heap.size,0,none⟩) 6 6 fT 3 _ T.out (by omega) (by decide)).mono ?_
 rintro _ w7 ⟨_,rfl,hb7,rfl⟩
 replace B:=Avp (B.out.le hb7)
 clear hb7 T
 go_wp2_with fail
 refine(Apl none 0 0 fT 0 _ (Atp _) (by omega) rfl).mono ?_
 rintro _ w8 ⟨_,rfl,hb8,rfl⟩
 replace B:=Avp (B.out.le hb8)
 clear hb8
 go_wp2
 go_ret
 exact retB' rfl B.out
theorem Ahj {w:World} (c:Ce) (A:Option Addr) (m:Nat) (s:Int) (g:Cr w) (pa:Ke w) (hd:Sl encB w A c.data.length m c.data) :
  Calls Tryz.prog 3 #[Aq c A c.data.length m,.int .i64 s] w (Ret w (IsB true)):=by
 have hglt:=Avp (And.intro g.nm.lt g.sm.lt)
 have FW:=Avp (fun(w1:World) (b:Nat) (h:Bx w1 b (Rv c A c.data.length m).toList)=>Atc c A m h)
 have KN:=Avp (fun(w1:World) (hb:Below w.heap.size w w1)=>Ap9 ⟨g.mono hb,pa.mono hb⟩)
 have XT:=Avp (fun w1=>Arw c A m w1)
 cases hl:Vh c with
 | false=>
  rw[hl] at FW
  clear hl XT g pa hd
  obtain⟨op,key,other,item,qty,data⟩:=c
  unfold Aq at *
  simp only at *
  generalize data.length=n at *
  have B:=Avp (show Below w.heap.size w (w.alloc (.cells #[.int .i64 op,Ac key,Ac other,Ac item,.int .i64 qty,.slice A n m] 25)) by go_grown)
  have X:=Avp (Bx.new w #[.int .i64 op,Ac key,Ac other,Ac item,.int .i64 qty,.slice A n m] 25)
  obtain⟨N,hN⟩:∃ N,N=w.heap.size:=⟨_,rfl⟩
  rw[<-hN] at X
  go_enter Tryz.func3,Tryz.ntmps3
  go_wp2_with fail
  rw[<-hN]
  have HSZ:=Avp (show(w.alloc (.cells #[.int .i64 op,Ac key,Ac other,Ac item,.int .i64 qty,.slice A n m] 25)).heap.size=N+1 by rw[hN];simp)
  clear hN
  generalize w.alloc (.cells #[.int .i64 op,Ac key,Ac other,Ac item,.int .i64 qty,.slice A n m] 25)=w1 at *
  have q0:=X.out.cell 0 rfl;have q1:=X.out.cell 1 rfl;have q2:=X.out.cell 2 rfl;have q3:=X.out.cell 3 rfl;have q4:=X.out.cell 4 rfl;have q5:=X.out.cell 5 rfl
  have X2:=Avp (Bx.new w1 #[.int .i64 op,Ac key,Ac other,Ac item,.int .i64 qty,.slice A n m] 25)
  have hbx:Below w1.heap.size w1 (w1.alloc (.cells #[.int .i64 op,Ac key,Ac other,Ac item,.int .i64 qty,.slice A n m] 25)):=by go_grown
  rw[show N+1=w1.heap.size from HSZ.out.symm]
  refine(FW.out _ _ X2.out).mono ?_
  rintro _ w2 ⟨_,rfl,hb2,rfl⟩
  replace B:=Avp ((B.out.le hbx).le hb2);replace X:=Avp ((X.out.mono hbx).mono hb2)
  clear hbx hb2 X2 q0 q1 q2 q3 q4 q5
  have q0:=X.out.cell 0 rfl;have q1:=X.out.cell 1 rfl;have q2:=X.out.cell 2 rfl;have q3:=X.out.cell 3 rfl;have q4:=X.out.cell 4 rfl;have q5:=X.out.cell 5 rfl
  go_wp2_with fail
  refine(KN.out _ B.out).mono ?_
  rintro _ w3 ⟨_,rfl,hb3,rfl⟩
  replace B:=Avp (B.out.le hb3)
  go_wp2
  go_ret
  exact retB' rfl B.out
 | true=>
  have hl4:=hl
  unfold Vh at hl4
  simp only[Bool.and_eq_true,decide_eq_true_eq] at hl4
  obtain⟨hk,ho,hi,hdl⟩:=hl4
  rw[hl] at FW
  cases ht:En c with
  | false=>
   have LS:=Avp (fun(w1:World) (hb:Below w.heap.size w w1)=>Kc (w:=w1) c A m s 2 [] (fun w2 hb2=>Pz c A m s (g.mono (hb.le hb2)) (by have:=hglt.out;have:=(hb.le hb2).size;omega) hk ho hi (hd.mono (hb.le hb2)) hdl (.inl ht)) (by simp))
   rw[ht] at XT
   clear hl ht g pa hd hk ho hi hdl
   obtain⟨op,key,other,item,qty,data⟩:=c
   unfold Aq at *
   simp only at *
   generalize data.length=n at *
   have B:=Avp (show Below w.heap.size w (w.alloc (.cells #[.int .i64 op,Ac key,Ac other,Ac item,.int .i64 qty,.slice A n m] 25)) by go_grown)
   have X:=Avp (Bx.new w #[.int .i64 op,Ac key,Ac other,Ac item,.int .i64 qty,.slice A n m] 25)
   obtain⟨N,hN⟩:∃ N,N=w.heap.size:=⟨_,rfl⟩
   rw[<-hN] at X
   go_enter Tryz.func3,Tryz.ntmps3
   go_wp2_with fail
   rw[<-hN]
   have HSZ:=Avp (show(w.alloc (.cells #[.int .i64 op,Ac key,Ac other,Ac item,.int .i64 qty,.slice A n m] 25)).heap.size=N+1 by rw[hN];simp)
   clear hN
   generalize w.alloc (.cells #[.int .i64 op,Ac key,Ac other,Ac item,.int .i64 qty,.slice A n m] 25)=w1 at *
   have q0:=X.out.cell 0 rfl;have q1:=X.out.cell 1 rfl;have q2:=X.out.cell 2 rfl;have q3:=X.out.cell 3 rfl;have q4:=X.out.cell 4 rfl;have q5:=X.out.cell 5 rfl
   have X2:=Avp (Bx.new w1 #[.int .i64 op,Ac key,Ac other,Ac item,.int .i64 qty,.slice A n m] 25)
   have hbx:Below w1.heap.size w1 (w1.alloc (.cells #[.int .i64 op,Ac key,Ac other,Ac item,.int .i64 qty,.slice A n m] 25)):=by go_grown
   rw[show N+1=w1.heap.size from HSZ.out.symm]
   refine(FW.out _ _ X2.out).mono ?_
   rintro _ w2 ⟨_,rfl,hb2,rfl⟩
   replace B:=Avp ((B.out.le hbx).le hb2);replace X:=Avp ((X.out.mono hbx).mono hb2)
   clear hbx hb2 X2 q0 q1 q2 q3 q4 q5
   have q0:=X.out.cell 0 rfl;have q1:=X.out.cell 1 rfl;have q2:=X.out.cell 2 rfl;have q3:=X.out.cell 3 rfl;have q4:=X.out.cell 4 rfl;have q5:=X.out.cell 5 rfl
   go_wp2_with fail
   refine(XT.out _).mono ?_
   rintro _ w4 ⟨_,rfl,hb4,rfl⟩
   replace B:=Avp (B.out.le hb4);replace X:=Avp (X.out.mono hb4)
   clear hb4 q0 q1 q2 q3 q4 q5
   have q0:=X.out.cell 0 rfl;have q1:=X.out.cell 1 rfl;have q2:=X.out.cell 2 rfl;have q3:=X.out.cell 3 rfl;have q4:=X.out.cell 4 rfl;have q5:=X.out.cell 5 rfl
   go_wp2_with fail
   refine(LS.out _ B.out).mono ?_
   rintro _ w5 ⟨_,rfl,hb5,rfl⟩
   replace B:=Avp (B.out.le hb5)
   clear hb5
   go_wp2_with fail
   refine(KN.out _ B.out).mono ?_
   rintro _ w6 ⟨_,rfl,hb6,rfl⟩
   replace B:=Avp (B.out.le hb6)
   go_wp2
   go_ret
   exact retB' rfl B.out
  | true=>
   rw[ht] at XT
   by_cases h1:s<1
   ·have LS:=Avp (fun(w1:World) (hb:Below w.heap.size w w1)=>Kc (w:=w1) c A m s 2 [] (fun w2 hb2=>Pz c A m s (g.mono (hb.le hb2)) (by have:=hglt.out;have:=(hb.le hb2).size;omega) hk ho hi (hd.mono (hb.le hb2)) hdl (.inr (.inl h1))) (by simp))
    clear hl ht g pa hd hk ho hi hdl
    obtain⟨op,key,other,item,qty,data⟩:=c
    unfold Aq at *
    simp only at *
    generalize data.length=n at *
    have B:=Avp (show Below w.heap.size w (w.alloc (.cells #[.int .i64 op,Ac key,Ac other,Ac item,.int .i64 qty,.slice A n m] 25)) by go_grown)
    have X:=Avp (Bx.new w #[.int .i64 op,Ac key,Ac other,Ac item,.int .i64 qty,.slice A n m] 25)
    obtain⟨N,hN⟩:∃ N,N=w.heap.size:=⟨_,rfl⟩
    rw[<-hN] at X
    go_enter Tryz.func3,Tryz.ntmps3
    go_wp2_with fail
    rw[<-hN]
    have HSZ:=Avp (show(w.alloc (.cells #[.int .i64 op,Ac key,Ac other,Ac item,.int .i64 qty,.slice A n m] 25)).heap.size=N+1 by rw[hN];simp)
    clear hN
    generalize w.alloc (.cells #[.int .i64 op,Ac key,Ac other,Ac item,.int .i64 qty,.slice A n m] 25)=w1 at *
    have q0:=X.out.cell 0 rfl;have q1:=X.out.cell 1 rfl;have q2:=X.out.cell 2 rfl;have q3:=X.out.cell 3 rfl;have q4:=X.out.cell 4 rfl;have q5:=X.out.cell 5 rfl
    have X2:=Avp (Bx.new w1 #[.int .i64 op,Ac key,Ac other,Ac item,.int .i64 qty,.slice A n m] 25)
    have hbx:Below w1.heap.size w1 (w1.alloc (.cells #[.int .i64 op,Ac key,Ac other,Ac item,.int .i64 qty,.slice A n m] 25)):=by go_grown
    rw[show N+1=w1.heap.size from HSZ.out.symm]
    refine(FW.out _ _ X2.out).mono ?_
    rintro _ w2 ⟨_,rfl,hb2,rfl⟩
    replace B:=Avp ((B.out.le hbx).le hb2);replace X:=Avp ((X.out.mono hbx).mono hb2)
    clear hbx hb2 X2 q0 q1 q2 q3 q4 q5
    have q0:=X.out.cell 0 rfl;have q1:=X.out.cell 1 rfl;have q2:=X.out.cell 2 rfl;have q3:=X.out.cell 3 rfl;have q4:=X.out.cell 4 rfl;have q5:=X.out.cell 5 rfl
    go_wp2_with fail
    refine(XT.out _).mono ?_
    rintro _ w4 ⟨_,rfl,hb4,rfl⟩
    replace B:=Avp (B.out.le hb4);replace X:=Avp (X.out.mono hb4)
    clear hb4 q0 q1 q2 q3 q4 q5
    have q0:=X.out.cell 0 rfl;have q1:=X.out.cell 1 rfl;have q2:=X.out.cell 2 rfl;have q3:=X.out.cell 3 rfl;have q4:=X.out.cell 4 rfl;have q5:=X.out.cell 5 rfl
    go_wp2_with fail
    refine(LS.out _ B.out).mono ?_
    rintro _ w5 ⟨_,rfl,hb5,rfl⟩
    replace B:=Avp (B.out.le hb5)
    clear hb5
    go_wp2_with fail
    refine(KN.out _ B.out).mono ?_
    rintro _ w6 ⟨_,rfl,hb6,rfl⟩
    replace B:=Avp (B.out.le hb6)
    go_wp2
    go_ret
    exact retB' rfl B.out
   ·by_cases h2:1024<s
    ·have LS:=Avp (fun(w1:World) (hb:Below w.heap.size w w1)=>Kc (w:=w1) c A m s 2 [] (fun w2 hb2=>Pz c A m s (g.mono (hb.le hb2)) (by have:=hglt.out;have:=(hb.le hb2).size;omega) hk ho hi (hd.mono (hb.le hb2)) hdl (.inr (.inr h2))) (by simp))
     clear hl ht g pa hd hk ho hi hdl
     obtain⟨op,key,other,item,qty,data⟩:=c
     unfold Aq at *
     simp only at *
     generalize data.length=n at *
     have B:=Avp (show Below w.heap.size w (w.alloc (.cells #[.int .i64 op,Ac key,Ac other,Ac item,.int .i64 qty,.slice A n m] 25)) by go_grown)
     have X:=Avp (Bx.new w #[.int .i64 op,Ac key,Ac other,Ac item,.int .i64 qty,.slice A n m] 25)
     obtain⟨N,hN⟩:∃ N,N=w.heap.size:=⟨_,rfl⟩
     rw[<-hN] at X
     go_enter Tryz.func3,Tryz.ntmps3
     go_wp2_with fail
     rw[<-hN]
     have HSZ:=Avp (show(w.alloc (.cells #[.int .i64 op,Ac key,Ac other,Ac item,.int .i64 qty,.slice A n m] 25)).heap.size=N+1 by rw[hN];simp)
     clear hN
     generalize w.alloc (.cells #[.int .i64 op,Ac key,Ac other,Ac item,.int .i64 qty,.slice A n m] 25)=w1 at *
     have q0:=X.out.cell 0 rfl;have q1:=X.out.cell 1 rfl;have q2:=X.out.cell 2 rfl;have q3:=X.out.cell 3 rfl;have q4:=X.out.cell 4 rfl;have q5:=X.out.cell 5 rfl
     have X2:=Avp (Bx.new w1 #[.int .i64 op,Ac key,Ac other,Ac item,.int .i64 qty,.slice A n m] 25)
     have hbx:Below w1.heap.size w1 (w1.alloc (.cells #[.int .i64 op,Ac key,Ac other,Ac item,.int .i64 qty,.slice A n m] 25)):=by go_grown
     rw[show N+1=w1.heap.size from HSZ.out.symm]
     refine(FW.out _ _ X2.out).mono ?_
     rintro _ w2 ⟨_,rfl,hb2,rfl⟩
     replace B:=Avp ((B.out.le hbx).le hb2);replace X:=Avp ((X.out.mono hbx).mono hb2)
     clear hbx hb2 X2 q0 q1 q2 q3 q4 q5
     have q0:=X.out.cell 0 rfl;have q1:=X.out.cell 1 rfl;have q2:=X.out.cell 2 rfl;have q3:=X.out.cell 3 rfl;have q4:=X.out.cell 4 rfl;have q5:=X.out.cell 5 rfl
     go_wp2_with fail
     refine(XT.out _).mono ?_
     rintro _ w4 ⟨_,rfl,hb4,rfl⟩
     replace B:=Avp (B.out.le hb4);replace X:=Avp (X.out.mono hb4)
     clear hb4 q0 q1 q2 q3 q4 q5
     have q0:=X.out.cell 0 rfl;have q1:=X.out.cell 1 rfl;have q2:=X.out.cell 2 rfl;have q3:=X.out.cell 3 rfl;have q4:=X.out.cell 4 rfl;have q5:=X.out.cell 5 rfl
     go_wp2_with fail
     refine(LS.out _ B.out).mono ?_
     rintro _ w5 ⟨_,rfl,hb5,rfl⟩
     replace B:=Avp (B.out.le hb5)
     clear hb5
     go_wp2_with fail
     refine(KN.out _ B.out).mono ?_
     rintro _ w6 ⟨_,rfl,hb6,rfl⟩
     replace B:=Avp (B.out.le hb6)
     go_wp2
     go_ret
     exact retB' rfl B.out
    ·obtain⟨k,rfl⟩:∃ k:Nat,s=k:=⟨s.toNat,by omega⟩
     have hll:(Dp (Es c k)).length<=1000000:=by
      have:=Rk c k
      have:Es c k=0∨Es c k=1∨Es c k=2:=by omega
      rcases this with h | h | h <;> rw[h] <;> decide
     have LS:=Avp (fun(w1:World) (hb:Below w.heap.size w w1)=>Kc (w:=w1) c A m k 0 (Dp (Es c k)) (fun w2 hb2=>Yr c A m k (g.mono (hb.le hb2)) (pa.mono (hb.le hb2)) (by have:=hglt.out;have:=(hb.le hb2).size;omega) hk ho hi (hd.mono (hb.le hb2)) hdl ht (by omega) (by omega)) hll)
     have XP:=Avp (fun(w1:World)=>Asv (w:=w1) c A m k hk ho (by omega) (by omega))
     generalize Dp (Es c k)=L at *
     have hbl:(L.length:Int)<=9223372036854775807:=by omega
     clear hl ht g pa hd hk ho hi hdl hll
     obtain⟨op,key,other,item,qty,data⟩:=c
     unfold Aq at *
     simp only at *
     generalize data.length=n at *
     have B:=Avp (show Below w.heap.size w (w.alloc (.cells #[.int .i64 op,Ac key,Ac other,Ac item,.int .i64 qty,.slice A n m] 25)) by go_grown)
     have X:=Avp (Bx.new w #[.int .i64 op,Ac key,Ac other,Ac item,.int .i64 qty,.slice A n m] 25)
     obtain⟨N,hN⟩:∃ N,N=w.heap.size:=⟨_,rfl⟩
     rw[<-hN] at X
     go_enter Tryz.func3,Tryz.ntmps3
     go_wp2_with fail
     rw[<-hN]
     have HSZ:=Avp (show(w.alloc (.cells #[.int .i64 op,Ac key,Ac other,Ac item,.int .i64 qty,.slice A n m] 25)).heap.size=N+1 by rw[hN];simp)
     clear hN
     generalize w.alloc (.cells #[.int .i64 op,Ac key,Ac other,Ac item,.int .i64 qty,.slice A n m] 25)=w1 at *
     have q0:=X.out.cell 0 rfl;have q1:=X.out.cell 1 rfl;have q2:=X.out.cell 2 rfl;have q3:=X.out.cell 3 rfl;have q4:=X.out.cell 4 rfl;have q5:=X.out.cell 5 rfl
     have X2:=Avp (Bx.new w1 #[.int .i64 op,Ac key,Ac other,Ac item,.int .i64 qty,.slice A n m] 25)
     have hbx:Below w1.heap.size w1 (w1.alloc (.cells #[.int .i64 op,Ac key,Ac other,Ac item,.int .i64 qty,.slice A n m] 25)):=by go_grown
     rw[show N+1=w1.heap.size from HSZ.out.symm]
     refine(FW.out _ _ X2.out).mono ?_
     rintro _ w2 ⟨_,rfl,hb2,rfl⟩
     replace B:=Avp ((B.out.le hbx).le hb2);replace X:=Avp ((X.out.mono hbx).mono hb2)
     clear hbx hb2 X2 q0 q1 q2 q3 q4 q5
     have q0:=X.out.cell 0 rfl;have q1:=X.out.cell 1 rfl;have q2:=X.out.cell 2 rfl;have q3:=X.out.cell 3 rfl;have q4:=X.out.cell 4 rfl;have q5:=X.out.cell 5 rfl
     go_wp2_with fail
     refine(XT.out _).mono ?_
     rintro _ w4 ⟨_,rfl,hb4,rfl⟩
     replace B:=Avp (B.out.le hb4);replace X:=Avp (X.out.mono hb4)
     clear hb4 q0 q1 q2 q3 q4 q5
     have q0:=X.out.cell 0 rfl;have q1:=X.out.cell 1 rfl;have q2:=X.out.cell 2 rfl;have q3:=X.out.cell 3 rfl;have q4:=X.out.cell 4 rfl;have q5:=X.out.cell 5 rfl
     clear q0 q1 q2 q3 q4 q5
     go_wp2_with fail
     refine Bu 6 mixed (by kernel_rfl) (by kernel_rfl) ?_
     refine Al.step (Ob.loadV Aa.free Has.oldIs (fun w1 hb1=>Ts X.out rfl hb1)) ?_
     refine Al.step (Ob.move Aa.free Has.oldIs) ?_
     refine Al.step (Ob.loadV Aa.free Has.oldIs (fun w1 hb1=>Ts X.out rfl hb1)) ?_
     refine Al.step (Ob.move Aa.free Has.oldIs) ?_
     refine Al.step (Ob.call2V Aa.free Xi (Has.new 2 1) (Has.new 3 0) (fun w1 _=>XP.out w1)) ?_
     refine Al.step (Ob.lenSlK Aa.free (Has.new 4 0) trivial) ?_
     simp only[Al,Ao,List.map,Bq,List.reverse_cons,List.reverse_nil,List.nil_append,List.cons_append,List.take_succ_cons,List.take_zero,List.drop_succ_cons,List.drop_zero]
     intro wE hE
     iterate 4 (rintro _ rfl)
     rintro _ ⟨A9,n9,c9,rfl,s9⟩
     iterate 1 (rintro _ rfl)
     simp only[Act.put,List.setIfInBounds_toArray,List.set_cons_zero,List.set_cons_succ]
     replace B:=Avp (B.out.le hE)
     clear hE s9 X
     go_wp2_with fail
     refine(LS.out _ B.out).mono ?_
     rintro _ w5 ⟨_,rfl,hb5,rfl⟩
     replace B:=Avp (B.out.le hb5)
     clear hb5
     go_wp2_with fail
     refine(KN.out _ B.out).mono ?_
     rintro _ w6 ⟨_,rfl,hb6,rfl⟩
     replace B:=Avp (B.out.le hb6)
     go_wp2
     go_ret
     exact retB' rfl B.out
theorem Sf {H:Type} {enc:TypeId×Value->H} {a:Assume} {C:Checked} {os:Os} {f:FuncId} {fn:Func} {s:ChangeSpec} {conds:List PathCond} {apart fresh handsOn again:Bool} {X:World->Array Value->Prop}
  (hX:∀ (w w':World) (args:Array Value),w.heap=w'.heap->X w args->X w' args)
  (own:ownKnob C.prog.godebug=none) (started:os.Started) (noInit:C.prog.inits.idxOf? f=none) (hfn:C.prog.funcs[f]?=some fn)
  (witness:∃ (w:World) (tape:Tape) (i:Input),w.os=os∧(w.forCall tape i).Shaped C.prog∧i.vars=[]∧Input.okWide C.prog (w.forCall tape i) .any w.heap.size f i∧
   ((s.pre enc C.prog fn conds apart (w.forCall tape i).memory i.args∧X (w.forCall tape i).memory i.args)∧sizedMet enc C.prog fn (OpenSpec.ofChange s) apart (w.forCall tape i).memory i.args)∧a.holds C.prog (lone (Frame.enter C.prog f i.args .normal) [] (w.forCall tape i)))
  (contract:∀ (W:World) (base:Nat) (args:Array Value) (ds gs:List (DataW H)) (Ey:List MemPlace),
   (∀ (j:Nat) t v,fn.params[j]?=some t->args[j]?=some v->Value.okWide C.prog W .any base t v) ->
   DataW.Whole enc C.prog fn.params.toList s.vars apart W args.toList ds gs Ey->X W args->W.ShapedOpen C.prog ->
   Calls C.prog f args W fun e W'=>∃ v,e = .returned v∧s.post enc C.prog fn apart fresh handsOn again W args v W') :
  ReturnsInHanded a C os f .any (fun w args=>(s.pre enc C.prog fn conds apart w args∧X w args)∧sizedMet enc C.prog fn (OpenSpec.ofChange s) apart w args) (s.post enc C.prog fn apart fresh handsOn again):=by
 refine returnsInHanded_of_calls own started noInit witness ?_
 intro w tape i _ hsh _ hok hpre _
 obtain⟨_,_,_,fn',hfn',_,_,_,_,hval⟩:=hok
 obtain rfl:fn'=fn:=Option.some.inj (hfn'.symm.trans hfn)
 obtain⟨⟨⟨ds,gs,Ey,hw,_⟩,hx⟩,_⟩:=hpre
 refine(contract (w.forCall tape i) w.heap.size i.args ds gs Ey hval (DataW.Whole.of_heap (w':=w.forCall tape i) (by rfl) hw) (hX _ _ _ (by rfl) hx) hsh).mono fun e W' ⟨v,he,hp⟩=>?_
 subst he
 exact ChangeSpec.post_blind hp
theorem Rw {P:Program} {w:World} {l:List (String×DataW Unit)} {n:String} {d:DataW Unit} {g t ty:Nat} (h:laidMet P l w) (hm:(n,d)∈l) (hg:P.globalNamed n=some g) (ht:(P.globals[g]?).map (·.type)=some t)
  (hs:w.ShapedOpen P) (hr:(((begin P (fun _ _=>0) default).world.heap[g]?).bind Obj.row?).map (·.2)=some ty) (hlt:g<P.globals.size) :
  ∃ cs fuel p,w.heap[g]?=some (.cells cs ty)∧DataW.trod (fun _=>()) P w 0 (fun _=>true) false fuel t cs.toList=some (d,p):=by
 obtain⟨g',t',cs,fuel,p,h1,h2,h3,h4⟩:=Lib.laidMet.reads h hm
 obtain rfl:=Option.some.inj (hg.symm.trans h1)
 obtain rfl:=Option.some.inj (ht.symm.trans h2)
 obtain⟨⟨z,ty'⟩,hz,rfl⟩:=Option.map_eq_some_iff.1 hr
 obtain⟨cs',hc,_⟩:=hs.1 g z ty' hlt hz
 unfold World.var? at h3
 rw[hg] at h3
 simp only[Option.bind_some,hc] at h3
 obtain rfl:=Option.some.inj h3
 exact⟨_,fuel,p,hc,h4⟩
theorem Ss {H:Type} {enc:TypeId×Value->H} {P:Program} {w:World} {base:Nat} {sp:Nat->Bool} {held:Bool} {fuel:Nat} {t e:TypeId} {n:Nat} {cs:List Value} {ss:List (List UInt8)} {p:List MemPlace}
  (ht:P.underlying t=some (.array n e)) (he:P.underlying e=some .string) (hc:P.cellsOf e=1) (hn:P.cellsOf t=n) (hs:ss.length=n)
  (h:DataW.trod enc P w base sp held fuel t cs=some (.agg (ss.map fun s=>.lit (.string s)),p)):cs=ss.map fun s=>Value.string ⟨⟨s⟩⟩:=by
 obtain⟨xs,m,_,ex,hl,_,_⟩:=DataW.trod_array ht h
 apply List.ext_getElem?
 intro i
 by_cases hi:i<n
 ·obtain⟨fuel',d,q,h1,h2⟩:=Lib.array_elem ht h i hi
  rw[hc,Nat.mul_one] at h2
  obtain⟨s,h3,h4,_⟩:=DataW.trod_string he h2
  simp only[Prod.mk.injEq] at h4
  have h5:cs[i]?=some (.string s):=by
   have:=congrArg (·[0]?) h3
   simpa [List.getElem?_take,List.getElem?_drop] using this
  rw[List.getElem?_map,Option.map_eq_some_iff] at h1
  obtain⟨s',h6,h7⟩:=h1
  rw[<-h7] at h4
  have h8:s.data.toList=s':=by simpa using h4.1.symm
  rw[h5,List.getElem?_map,h6,<-h8]
  rfl
 ·rw[List.getElem?_eq_none (by omega),List.getElem?_eq_none (by simp;omega)]
theorem Sp {H:Type} {enc:TypeId×Value->H} {P:Program} {w:World} {base:Nat} {sp:Nat->Bool} {held:Bool} {fuel:Nat} {t e:TypeId} {n:Nat} {k:IntKind} {cs:List Value} {zs:List Int} {p:List MemPlace}
  (ht:P.underlying t=some (.array n e)) (he:P.underlying e=some (.int k)) (hc:P.cellsOf e=1) (hn:P.cellsOf t=n) (hs:zs.length=n)
  (h:DataW.trod enc P w base sp held fuel t cs=some (.agg (zs.map fun z=>.lit (.int k z)),p)):cs=zs.map fun z=>Value.int k z:=by
 obtain⟨xs,m,_,ex,hl,_,_⟩:=DataW.trod_array ht h
 apply List.ext_getElem?
 intro i
 by_cases hi:i<n
 ·obtain⟨fuel',d,q,h1,h2⟩:=Lib.array_elem ht h i hi
  rw[hc,Nat.mul_one] at h2
  obtain⟨z,h3,h4,_⟩:=DataW.trod_int he h2
  simp only[Prod.mk.injEq] at h4
  have h5:cs[i]?=some (.int k z):=by
   have:=congrArg (·[0]?) h3
   simpa [List.getElem?_take,List.getElem?_drop] using this
  rw[List.getElem?_map,Option.map_eq_some_iff] at h1
  obtain⟨z',h6,h7⟩:=h1
  rw[<-h7] at h4
  have h8:z=z':=by simpa using h4.1.symm
  rw[h5,List.getElem?_map,h6,<-h8]
  rfl
 ·rw[List.getElem?_eq_none (by omega),List.getElem?_eq_none (by simp;omega)]
set_option maxRecDepth 100000
theorem Afa:(((begin Tryz.prog (fun _ _=>0) default).world.heap[0]?).bind Obj.row?).map (·.2)=some 333:=by kernel_rfl
theorem Af5:(((begin Tryz.prog (fun _ _=>0) default).world.heap[1]?).bind Obj.row?).map (·.2)=some 433:=by kernel_rfl
def partsC:List Value:=([[],[107,105,113],[107,105,113],[107,105],[107],[107],[107,111,105],[107,111],[100],[],[],[]]:List (List UInt8)).map fun s=>Value.string ⟨⟨s⟩⟩
def smallC:List Value:=([2166136261,16777619]:List Int).map fun z=>Value.int .u32 z
theorem Ae6 {w : World} {l : List (String × DataW Unit)} (h : laidMet Tryz.prog l w) (hm : ("pannier/errors.parts", .agg (([[], [107, 105, 113], [107, 105, 113], [107, 105], [107], [107], [107, 111, 105], [107, 111], [100], [], [], []] : List (List UInt8)).map fun s => .lit (.string s))) ∈ l) (hs : w.ShapedOpen Tryz.prog) :
  w.heap[0]?=some (.cells partsC.toArray 333):=by
 obtain⟨cs,fuel,p,h1,h2⟩:=Rw (t:=333) h hm (by kernel_rfl) (by kernel_rfl) hs Afa (by decide +kernel)
 have:=Ss Tryz.underlying333 Tryz.underlying9 (by kernel_rfl) (by kernel_rfl) rfl h2
 rw[h1]
 obtain⟨l⟩:=cs
 simp only at this
 rw[this]
 rfl
theorem Aa0 {w : World} {l : List (String × DataW Unit)} (h : laidMet Tryz.prog l w) (hm : ("pannier/hash.small", .agg (([2166136261, 16777619] : List Int).map fun z => .lit (.int .u32 z))) ∈ l) (hs : w.ShapedOpen Tryz.prog) :
  w.heap[1]?=some (.cells smallC.toArray 433):=by
 obtain⟨cs,fuel,p,h1,h2⟩:=Rw (t:=433) h hm (by kernel_rfl) (by kernel_rfl) hs Af5 (by decide +kernel)
 have:=Sp Tryz.underlying433 Tryz.underlying132 (by kernel_rfl) (by kernel_rfl) rfl h2
 rw[h1]
 obtain⟨l⟩:=cs
 simp only at this
 rw[this]
 rfl
end Go.Proofs.YthnbhjpahlceeaaGreatDoor
namespace Go.Proofs.YthnbhjpahlceeaaGreatDoor
open Go.ChangeShapes Go.WideShapes Go.ChangeAt Go.RowKit Go.Deep Go.Joins
section
variable {H:Type} {enc:TypeId×Value->H} {P:Program}
theorem Rs (hl:laidOutB P=true) {W W':World} {sp':Nat->Bool}:∀ {ts:List TypeId} {vs:List Value} {ds:List (DataW H)} {ps:List MemPlace},(∀ t∈ts,P.readableRec t=true∧t<P.types.size) ->
  DataW.TrodAll enc P W 0 (fun _=>true) true ts vs ds ps->(∀ p∈ps,W.sameAt W' p)->(∀ p∈ps,sp' p.block=true)->DataW.TrodAll enc P W' 0 sp' true ts vs ds ps
 | [],_,_,_,_,h,_,_=>by
  obtain⟨rfl,rfl,rfl⟩:=trodAll_nil h
  rfl
 | t::ts,_,_,_,hr,h,hs,hp=>by
  obtain⟨v,vs,d,ds,a,b,rfl,rfl,rfl,h1,h2⟩:=trodAll_cons h
  have ht:=hr t List.mem_cons_self
  exact⟨a,b,Go.WideElems.Trod_stays hl ht.1 ht.2 h1 (fun p h=>hs p (List.mem_append_left _ h)) (fun p h=>hp p (List.mem_append_left _ h)),
   Rs hl (fun t h=>hr t (List.mem_cons_of_mem _ h)) h2 (fun p h=>hs p (List.mem_append_right _ h)) (fun p h=>hp p (List.mem_append_right _ h)),rfl⟩
theorem Ajy {f:Func} {s:ChangeSpec} {apart fresh handsOn again:Bool} {W W':World} {args:Array Value} {ds:List (DataW H)} {Ey:List MemPlace} {tb:TypeId} (hl:laidOutB P=true)
  (hr0:f.params.toList.all (fun t=>P.readableRec t&&decide (t<P.types.size))=true) (hT:f.resultTypes = #[tb]) (hbt:P.underlying tb=some .bool) (hsv:s.vars=[]) (hfn:s.fn H ds={ results:=[.lit (.bool true)],args:=ds })
  (hW:DataW.Whole enc P f.params.toList s.vars apart W args.toList ds [] Ey) (hb:Below W.heap.size W W'):s.post enc P f apart fresh handsOn again W args (.bool true) W':=by
 have hr:∀ t∈f.params.toList,P.readableRec t=true∧t<P.types.size:=fun t ht=>by
  have:=List.all_eq_true.1 hr0 t ht
  rw[Bool.and_eq_true] at this
  exact⟨this.1,of_decide_eq_true this.2⟩
 obtain⟨p,q,hA,hV,hps,hz,hn⟩:=id hW
 have hq:q=[]:=by rw[hsv] at hV;exact hV
 subst hq
 rw[List.append_nil] at hps
 subst hps
 have hlt:∀ x∈Ey,x.block<W.heap.size:=fun x hx=>hW.lt x hx
 have hsame:∀ x∈Ey,W.sameAt W' x:=fun x hx=>hb.same (hlt x hx)
 have hres:∀ (b:Nat) (sp:Nat->Bool) (hd:Bool),DataW.TrodAll enc P W' b sp hd f.resultTypes.toList ((Value.bool true).resultList f.resultTypes.size) [.lit (.bool true)] []:=by
  intro b sp hd
  rw[hT]
  exact trodAll_mk1 (shut_bool hbt _)
 refine⟨ds,[],Ey,[],Ey,[],hW,?_,?_,?_,World.keptBut_mono (fun x hx=>⟨hx,.inr (.inl hx)⟩) (hb.frame (·∈Ey)),fun _=>⟨?_,?_⟩⟩
 ·rw[List.append_nil,hfn];exact hres _ _ _
 ·rw[List.append_nil,hfn];exact Rs hl hr hA hsame fun x hx=>by simpa using hlt x hx
 ·rw[List.append_nil,hfn,hsv];rfl
 ·exact ok_one hT rfl (okWide_bool_mk hbt _)
 ·refine⟨_,[],Ey,⟨Ey,[],trodAll_append (p:=[]) (Rs hl hr hA hsame fun _ _=>rfl) (hres _ _ _),by rw[hsv];rfl,by simp,fun b off hp=>?_,hn⟩,fun x hx _=>hx⟩
  rw[hb.frozen (hlt _ hp)]
  exact hz b off hp
end
theorem Ajk:ownKnob Tryz.prog.godebug=none:=by kernel_rfl
theorem Ahg:laidOutB Tryz.prog=true:=by kernel_rfl
section
variable {H:Type} {enc:TypeId×Value->H} {w:World} {base:Nat} {held:Bool}
theorem Agp:Tryz.prog.cellsOf 3=1:=by kernel_rfl
theorem Ad8:Tryz.prog.cellsOf 9=1:=by kernel_rfl
theorem Ai9:Tryz.prog.cellsOf 5=1:=by kernel_rfl
theorem Zy:Tryz.prog.cellsOf 23=1:=by kernel_rfl
theorem Ab5:Tryz.prog.cellsOf 25=6:=by kernel_rfl
theorem Af2:Tryz.prog.cellsOf 22=1:=by kernel_rfl
theorem Af9 {fuel:Nat} {cs:List Value} {x:DataW H×List MemPlace} (h:DataW.trod enc Tryz.prog w base (fun _=>true) held fuel 5 cs=some x):∃ b,encB.enc b=cs:=by
 obtain⟨p,rfl,_,wf⟩:=DataW.trod_int Tryz.underlying5 h
 have h2:0<=p∧p<=255:=by
  have h3:IntKind.u8.min<=p∧p<=IntKind.u8.max:=by simpa [Lit.wf] using wf
  exact h3
 refine⟨UInt8.ofNat p.toNat,?_⟩
 simp[encB]
 omega
theorem Qo {fuel:Nat} {v:Value} {x:DataW H×List MemPlace} (h:DataW.trod enc Tryz.prog w base (fun _=>true) held fuel 9 [v]=some x):∃ l,v=Ac l:=by
 obtain⟨s,e,_⟩:=DataW.trod_string Tryz.underlying9 h
 simp at e
 exact⟨s.data.toList,e⟩
theorem Am3 {α:Type} [Inhabited α] (e:Enc α) {t et:TypeId} (ht:Tryz.prog.underlying t=some (.slice et)) (hz:Tryz.prog.cellsOf et=e.z) (hz0:0<e.z)
  (each:∀ {fuel:Nat} {cs:List Value} {x:DataW H×List MemPlace},DataW.trod enc Tryz.prog w base (fun _=>true) held fuel et cs=some x->∃ a,e.enc a=cs)
  {fuel:Nat} {v:Value} {x:DataW H×List MemPlace} (h:DataW.trod enc Tryz.prog w base (fun _=>true) held fuel t [v]=some x):∃ A n c l,v = .slice A n c∧Sl e w A n c l:=by
 rcases open_slice ht h with⟨h1,_⟩ | ⟨a,len,cap,m,n,D,Pl,h1,hb,hl,hm,hmm,_,hx⟩
 ·cases h1
  exact⟨none,0,0,[],rfl,rfl,Nat.le_refl _,Nat.zero_le _,fun _=>rfl,fun i x hi=>by simp at hi⟩
 ·cases h1
  rw[if_pos rfl] at hmm
  rw[hz] at hx
  have at_:∀ i,i<len->∃ s:α,∀ j u,(e.enc s)[j]?=some u->w.cell? (a.add (i*e.z+j))=some u:=by
   intro i hi
   obtain⟨cs',h1,h2⟩:=hx i (by omega)
   obtain⟨_,hlen,hcell⟩:=World.cells?_some h1
   obtain⟨s,hs⟩:=each h2
   refine⟨s,fun j u hj=>?_⟩
   rw[hs] at hj
   have hj6:j<e.z:=by
    have h9:=(List.getElem?_eq_some_iff.1 hj).1
    omega
   have:=hcell j hj6
   rw[add_add] at this
   rw[this];exact hj
  obtain⟨q,hq⟩:=choose_lt at_
  refine⟨some a,len,cap,(List.range len).map q,rfl,by simp,hl,hm,(fun e=>nomatch e),fun i v hi=>?_⟩
  have hil:i<len:=by have:=(List.getElem?_eq_some_iff.1 hi).1;simpa using this
  rw[List.getElem?_map,List.getElem?_range hil] at hi
  simp only[Option.map_some,Option.some.injEq] at hi
  subst hi
  have hc:=hq i hil
  obtain⟨b,o,s⟩:=a
  have hfst:∀ j,∃ u,(e.enc (q j))[0]?=some u:=fun j=>⟨_,List.getElem?_eq_getElem (by rw[e.len];exact hz0)⟩
  obtain⟨u0,h0⟩:=hfst i
  obtain⟨u1,h01⟩:=hfst 0
  have hs:s=none:=by have h9:=World.cell?_spot (hq 0 (by omega) 0 _ h01);simpa [Addr.add] using h9
  subst hs
  refine⟨b,o,rfl,?_,fun j u hj=>?_⟩
  ·have h9:=hc 0 _ h0
   rw[Bz] at h9
   exact World.block_lt_of_cell? w _ h9
  ·have:=hc j u hj
   rw[Bz] at this
   rw[Nat.add_assoc];exact this
instance:Inhabited UInt8:=⟨0⟩
theorem Acc {fuel:Nat} {v:Value} {x:DataW H×List MemPlace} (h:DataW.trod enc Tryz.prog w base (fun _=>true) held fuel 23 [v]=some x):∃ A n c l,v = .slice A n c∧Sl encB w A n c l:=
 Am3 encB Tryz.underlying23 Ai9 Nat.one_pos (fun h=>Af9 h) h
theorem Asp {α:Type} {cs:List α} (h:cs.length=6):∃ a b c d e f,cs=[a,b,c,d,e,f]:=by
 match cs,h with
 | [a,b,c,d,e,f],_=>exact⟨a,b,c,d,e,f,rfl⟩
theorem Aeg {fuel:Nat} {cs:List Value} {x:DataW H×List MemPlace} (h:DataW.trod enc Tryz.prog w base (fun _=>true) held fuel 25 cs=some x) :
  ∃ (c:Ce) (A:Option Addr) (n m:Nat),cs=[.int .i64 c.op,Ac c.key,Ac c.other,Ac c.item,.int .i64 c.qty,.slice A n m]∧Sl encB w A n m c.data:=by
 obtain⟨xs,k,_,_,hl,hxl,hf⟩:=DataW.trod_struct Tryz.underlying25 h
 rw[Ab5] at hl
 obtain⟨v0,v1,v2,v3,v4,v5,rfl⟩:=Asp hl
 match xs,hxl with
 | [y0,y1,y2,y3,y4,y5],_=>
  have g0:=hf 0 _ rfl
  have g1:=hf 1 _ rfl
  have g2:=hf 2 _ rfl
  have g3:=hf 3 _ rfl
  have g4:=hf 4 _ rfl
  have g5:=hf 5 _ rfl
  simp[Agp,Ad8,Zy,Af2] at g0 g1 g2 g3 g4 g5
  obtain⟨o,e0,_⟩:=DataW.trod_int Tryz.underlying22 g0
  obtain⟨l1,rfl⟩:=Qo g1
  obtain⟨l2,rfl⟩:=Qo g2
  obtain⟨l3,rfl⟩:=Qo g3
  obtain⟨q,e4,_⟩:=DataW.trod_int Tryz.underlying3 g4
  obtain⟨A,n,m,l,rfl,hs⟩:=Acc g5
  simp at e0 e4
  subst e0;subst e4
  exact⟨⟨o,l1,l2,l3,q,l⟩,A,n,m,rfl,hs⟩
theorem Aey {r:Reach} {b0:Nat} {v:Value} {d:DataW H} {p:List MemPlace} (hv:Value.okWide Tryz.prog w r b0 25 v) (h:DataW.Trod enc Tryz.prog w base (fun _=>true) held 25 v d p) :
  ∃ (c:Ce) (A:Option Addr) (n m:Nat),v=Aq c A n m∧Sl encB w A n m c.data:=by
 obtain⟨⟨cs⟩,rfl,hsz⟩:=okWide_struct Tryz.underlying25 hv
 obtain⟨fuel,hf⟩:=h
 obtain⟨c,A,n,m,e,hs⟩:=Aeg hf
 simp only[Value.cells] at e
 subst e
 exact⟨c,A,n,m,rfl,hs⟩
end
end Go.Proofs.YthnbhjpahlceeaaGreatDoor
namespace Go.Proofs.YthnbhjpahlceeaaGreatDoor
open Go.RowKit
theorem An0:(((begin Tryz.prog (fun _ _=>0) default).world.heap[2]?).bind Obj.row?).map (fun r=>(r.1.size,r.2))=some (1,3):=by kernel_rfl
theorem Ago:Tryz.prog.cellTypes Tryz.prog.depth 3=some [3]:=by kernel_rfl
theorem Aix {w:World} (hs:w.ShapedOpen Tryz.prog):∃ k e fr,w.heap[2]?=some (.cells #[.int .i64 k] e fr):=by
 obtain⟨⟨z,t⟩,hz,he⟩:=Option.map_eq_some_iff.1 An0
 simp only[Prod.mk.injEq] at he
 obtain⟨h1,rfl⟩:=he
 obtain⟨cs,hc,hsz,hok⟩:=hs.1 _ z _ (by decide +kernel) hz
 obtain⟨ts,e1,_,hcell⟩:=hok (by kernel_rfl)
 rw[Ago] at e1
 obtain rfl:=Option.some.inj e1
 have hsz1:cs.size=1:=hsz.trans h1
 obtain⟨l⟩:=cs
 match l,hsz1 with
 | [u],_=>
  obtain⟨t',ht',hu⟩:=hcell 0 u rfl
  have:t'=3:=by simpa using ht'.symm
  subst this
  unfold Cell.ok at hu
  rw[Tryz.underlying3] at hu
  cases u with
  | int k' n=>obtain⟨rfl,_⟩:=hu;exact⟨n,_,_,hc⟩
  | _=>exact hu.elim
theorem Ae9 {w : World} {l : List (String × DataW Unit)} (h : laidMet Tryz.prog l w) (hs : w.ShapedOpen Tryz.prog) (h0 : ("pannier/errors.parts", .agg (([[], [107, 105, 113], [107, 105, 113], [107, 105], [107], [107], [107, 111, 105], [107, 111], [100], [], [], []] : List (List UInt8)).map fun s => .lit (.string s))) ∈ l)
  (h1 : ("pannier/hash.small", .agg (([2166136261, 16777619] : List Int).map fun z => .lit (.int .u32 z))) ∈ l) : Cr w ∧ Ke w := by
 obtain⟨k,e,fr,hk⟩:=Aix hs
 have hp:=Ae6 h h0 hs
 have hm:=Aa0 h h1 hs
 refine⟨⟨⟨k,?_⟩,⟨?_,?_⟩⟩,⟨fun i s e=>?_⟩⟩
 ·rw[cell_of_row w _ 0 _ e fr hk];rfl
 ·rw[cell_of_row w _ 0 _ _ (0,0) hm];rfl
 ·rw[cell_of_row w _ 1 _ _ (0,0) hm];rfl
 ·rw[cell_of_row w _ i _ _ (0,0) hp]
  have e1:partsC=partsL.map Ac:=rfl
  rw[e1,List.getElem?_toArray,List.getElem?_map,e]
  rfl
theorem Afb {w:World} {c:Ce} {A:Option Addr} {n m:Nat} (s:Int) (hd:Sl encB w A n m c.data) (g:Cr w∧Ke w) :
  Calls Tryz.prog 3 #[Aq c A n m,.int .i64 s] w (Ret w (IsB true)):=by
 obtain rfl:=hd.len
 exact Ahj c A m s g.1 g.2 hd
end Go.Proofs.YthnbhjpahlceeaaGreatDoor
