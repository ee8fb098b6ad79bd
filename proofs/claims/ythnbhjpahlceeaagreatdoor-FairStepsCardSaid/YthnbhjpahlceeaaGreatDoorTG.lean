/-
  Node.shape (weak): some error, or none.
-/
import Derived.Test.YthnbhjpahlceeaaGreatDoorTF
import Derived.Test.YthnbhjpahlceeaaGreatDoorTE
import Derived.Laws.IdiomRangeMap
set_option maxRecDepth 100000
set_option maxHeartbeats 8000000
set_option linter.unusedSectionVars false
set_option linter.unusedVariables false
set_option linter.unusedSimpArgs false
set_option maxRecDepth 100000
set_option maxHeartbeats 8000000
namespace Go.Proofs.YthnbhjpahlceeaaGreatDoor
open Go.RowKit
def Aum (B:Nat) (w:World) (e:Ending) (w':World):Prop:=Below B w w'∧∃ (A:Option Addr) (n c:Nat) (k:Int) (l:List EnS),e = .returned (.tuple #[.slice A n c,.int .i64 k])∧Cb (fun b=>B<=b∧b<w'.heap.size) w' A n c l∧n<=1024
theorem Eu {A:Option Addr} {n c:Nat} {l:List UInt8} {w:World} (h:Sl encB w A n c l) (hl:l.length<=200000) (hn:Iv w):Calls Tryz.prog 86 #[.slice A n c] w (Aum w.heap.size w):=by
 refine(Mq h hl hn).mono fun e w' hd=>?_
 obtain⟨hb,hd⟩:=hd
 cases ho:Gy l with
 | none=>
  rw[ho] at hd
  exact⟨hb,none,0,0,12,[],hd,Cb.nil_ _ _,by omega⟩
 | some es=>
  rw[ho] at hd
  obtain⟨v,e1,A',n',c',rfl,he⟩:=hd
  refine⟨hb,A',n',c',0,es,e1,he,?_⟩
  have hlen:=he.len
  unfold Gy at ho
  split at ho
  ·cases ho
  ·split at ho
   ·cases ho
   ·split at ho
    ·cases ho
     rw[hlen];exact Ov _
    ·cases ho
theorem Amh {w:World} {q:NPl} {n:Int} (key other item data:List UInt8) (qty:Int) (ln:Nat) (A:Option Addr) (m:Nat) (h:FN w q n) (g:Cr w) (hk:key.length<=300) (ho:other.length<=300) (hi:item.length<=300) (hd:Sl encB w A ln m data) (hdl:data.length<=300) :
  Calls Tryz.prog 119 #[.pointer (some ⟨q.N,0,none⟩),.agg #[.int .i64 1,Ac key,Ac other,Ac item,.int .i64 qty,.slice A ln m]] w (Ret w Hv):=by
 have X:=Avp (Bx.new w #[.int .i64 1,Ac key,Ac other,Ac item,.int .i64 qty,.slice A ln m] 25)
 have B:=Avp (show Below w.heap.size w (w.alloc (.cells #[.int .i64 1,Ac key,Ac other,Ac item,.int .i64 qty,.slice A ln m] 25)) by go_grown)
 have F:=Avp (Adv (w.alloc (.cells #[.int .i64 1,Ac key,Ac other,Ac item,.int .i64 qty,.slice A ln m] 25)))
 have H:=Avp h
 have K1:=Avp (fun w1 (hb:Below w.heap.size w w1)=>g.nm.ok.key w1 hb key (by omega))
 have K2:=Avp (fun w1 (hb:Below w.heap.size w w1)=>g.nm.ok.key w1 hb other (by omega))
 have K3:=Avp (fun w1 (hb:Below w.heap.size w w1)=>g.nm.ok.item w1 hb item (by omega))
 have K4:=Avp (fun w1 (hb:Below w.heap.size w w1)=>Eu (hd.mono hb) (by omega) (g.nm.mono hb))
 obtain⟨N,hN⟩:∃ N,N=w.heap.size:=⟨_,rfl⟩
 rw[<-hN] at X
 clear h g hk ho hi hd hdl
 go_enter Tryz.func119,Tryz.ntmps119
 go_wp2_with fail
 rw[<-hN]
 clear hN
 refine F.out.mono ?_
 rintro _ w1 ⟨_,rfl,hb1,rfl⟩
 have hb2:Below w1.heap.size w1 (w1.alloc (.cells #[.bool true,.bool false,.bool true,.bool true,.bool false] 283)):=by go_grown
 replace X:=Avp ((X.out.mono hb1).mono hb2)
 replace B:=Avp ((B.out.le hb1).le hb2)
 have XP:=Avp (Bx.new w1 #[.bool true,.bool false,.bool true,.bool true,.bool false] 283)
 have k8:=(H.out.mono B.out).k8
 have q0:=X.out.cell 0 rfl;have q1:=X.out.cell 1 rfl;have q2:=X.out.cell 2 rfl;have q3:=X.out.cell 3 rfl;have q4:=X.out.cell 4 rfl;have q5:=X.out.cell 5 rfl
 have p0:=XP.out.cell 0 rfl;have p1:=XP.out.cell 1 rfl;have p2:=XP.out.cell 2 rfl;have p3:=XP.out.cell 3 rfl;have p4:=XP.out.cell 4 rfl
 clear hb1 hb2 F
 go_wp2_with (first
  | (go_at_call 137;(first | (with_reducible refine(K1.out _ B.out).mono ?_) | (with_reducible refine(K2.out _ B.out).mono ?_));rintro _ wx ⟨_,rfl,hbx,rfl⟩;replace X:=Avp (X.out.mono hbx);replace XP:=Avp (XP.out.mono hbx);replace B:=Avp (B.out.le hbx);replace q0:=X.out.cell 0 rfl;replace q1:=X.out.cell 1 rfl;replace q2:=X.out.cell 2 rfl;replace q3:=X.out.cell 3 rfl;replace q4:=X.out.cell 4 rfl;replace q5:=X.out.cell 5 rfl;replace p0:=XP.out.cell 0 rfl;replace p1:=XP.out.cell 1 rfl;replace p2:=XP.out.cell 2 rfl;replace p3:=XP.out.cell 3 rfl;replace p4:=XP.out.cell 4 rfl;clear hbx)
  | (go_at_call 176;(with_reducible refine(K3.out _ B.out).mono ?_);rintro _ wx ⟨_,rfl,hbx,rfl⟩;replace X:=Avp (X.out.mono hbx);replace XP:=Avp (XP.out.mono hbx);replace B:=Avp (B.out.le hbx);replace q0:=X.out.cell 0 rfl;replace q1:=X.out.cell 1 rfl;replace q2:=X.out.cell 2 rfl;replace q3:=X.out.cell 3 rfl;replace q4:=X.out.cell 4 rfl;replace q5:=X.out.cell 5 rfl;replace p0:=XP.out.cell 0 rfl;replace p1:=XP.out.cell 1 rfl;replace p2:=XP.out.cell 2 rfl;replace p3:=XP.out.cell 3 rfl;replace p4:=XP.out.cell 4 rfl;clear hbx)
  | (go_at_call 178;(with_reducible refine(La qty _).mono ?_);rintro _ wx ⟨_,rfl,hbx,rfl⟩;replace X:=Avp (X.out.mono hbx);replace XP:=Avp (XP.out.mono hbx);replace B:=Avp (B.out.le hbx);replace q0:=X.out.cell 0 rfl;replace q1:=X.out.cell 1 rfl;replace q2:=X.out.cell 2 rfl;replace q3:=X.out.cell 3 rfl;replace q4:=X.out.cell 4 rfl;replace q5:=X.out.cell 5 rfl;replace p0:=XP.out.cell 0 rfl;replace p1:=XP.out.cell 1 rfl;replace p2:=XP.out.cell 2 rfl;replace p3:=XP.out.cell 3 rfl;replace p4:=XP.out.cell 4 rfl;clear hbx)
  | (go_at_call 86;(with_reducible refine(K4.out _ B.out).mono ?_);rintro _ wx ⟨hbx,A9,n9,c9,k9,l9,rfl,_,_⟩;replace X:=Avp (X.out.mono hbx);replace XP:=Avp (XP.out.mono hbx);replace B:=Avp (B.out.le hbx);replace q0:=X.out.cell 0 rfl;replace q1:=X.out.cell 1 rfl;replace q2:=X.out.cell 2 rfl;replace q3:=X.out.cell 3 rfl;replace q4:=X.out.cell 4 rfl;replace q5:=X.out.cell 5 rfl;replace p0:=XP.out.cell 0 rfl;replace p1:=XP.out.cell 1 rfl;replace p2:=XP.out.cell 2 rfl;replace p3:=XP.out.cell 3 rfl;replace p4:=XP.out.cell 4 rfl;clear hbx)
  | fail)
 all_goals go_ret
 all_goals exact⟨_,rfl,B.out,_,rfl⟩
theorem Amr {w:World} {q:NPl} {n:Int} (key other item data:List UInt8) (qty:Int) (ln:Nat) (A:Option Addr) (m:Nat) (h:FN w q n) (g:Cr w) (hk:key.length<=300) (ho:other.length<=300) (hi:item.length<=300) (hd:Sl encB w A ln m data) (hdl:data.length<=300) :
  Calls Tryz.prog 119 #[.pointer (some ⟨q.N,0,none⟩),.agg #[.int .i64 2,Ac key,Ac other,Ac item,.int .i64 qty,.slice A ln m]] w (Ret w Hv):=by
 have X:=Avp (Bx.new w #[.int .i64 2,Ac key,Ac other,Ac item,.int .i64 qty,.slice A ln m] 25)
 have B:=Avp (show Below w.heap.size w (w.alloc (.cells #[.int .i64 2,Ac key,Ac other,Ac item,.int .i64 qty,.slice A ln m] 25)) by go_grown)
 have F:=Avp (Acu (w.alloc (.cells #[.int .i64 2,Ac key,Ac other,Ac item,.int .i64 qty,.slice A ln m] 25)))
 have H:=Avp h
 have K1:=Avp (fun w1 (hb:Below w.heap.size w w1)=>g.nm.ok.key w1 hb key (by omega))
 have K2:=Avp (fun w1 (hb:Below w.heap.size w w1)=>g.nm.ok.key w1 hb other (by omega))
 have K3:=Avp (fun w1 (hb:Below w.heap.size w w1)=>g.nm.ok.item w1 hb item (by omega))
 have K4:=Avp (fun w1 (hb:Below w.heap.size w w1)=>Eu (hd.mono hb) (by omega) (g.nm.mono hb))
 obtain⟨N,hN⟩:∃ N,N=w.heap.size:=⟨_,rfl⟩
 rw[<-hN] at X
 clear h g hk ho hi hd hdl
 go_enter Tryz.func119,Tryz.ntmps119
 go_wp2_with fail
 rw[<-hN]
 clear hN
 refine F.out.mono ?_
 rintro _ w1 ⟨_,rfl,hb1,rfl⟩
 have hb2:Below w1.heap.size w1 (w1.alloc (.cells #[.bool true,.bool false,.bool true,.bool true,.bool false] 283)):=by go_grown
 replace X:=Avp ((X.out.mono hb1).mono hb2)
 replace B:=Avp ((B.out.le hb1).le hb2)
 have XP:=Avp (Bx.new w1 #[.bool true,.bool false,.bool true,.bool true,.bool false] 283)
 have k8:=(H.out.mono B.out).k8
 have q0:=X.out.cell 0 rfl;have q1:=X.out.cell 1 rfl;have q2:=X.out.cell 2 rfl;have q3:=X.out.cell 3 rfl;have q4:=X.out.cell 4 rfl;have q5:=X.out.cell 5 rfl
 have p0:=XP.out.cell 0 rfl;have p1:=XP.out.cell 1 rfl;have p2:=XP.out.cell 2 rfl;have p3:=XP.out.cell 3 rfl;have p4:=XP.out.cell 4 rfl
 clear hb1 hb2 F
 go_wp2_with (first
  | (go_at_call 137;(first | (with_reducible refine(K1.out _ B.out).mono ?_) | (with_reducible refine(K2.out _ B.out).mono ?_));rintro _ wx ⟨_,rfl,hbx,rfl⟩;replace X:=Avp (X.out.mono hbx);replace XP:=Avp (XP.out.mono hbx);replace B:=Avp (B.out.le hbx);replace q0:=X.out.cell 0 rfl;replace q1:=X.out.cell 1 rfl;replace q2:=X.out.cell 2 rfl;replace q3:=X.out.cell 3 rfl;replace q4:=X.out.cell 4 rfl;replace q5:=X.out.cell 5 rfl;replace p0:=XP.out.cell 0 rfl;replace p1:=XP.out.cell 1 rfl;replace p2:=XP.out.cell 2 rfl;replace p3:=XP.out.cell 3 rfl;replace p4:=XP.out.cell 4 rfl;clear hbx)
  | (go_at_call 176;(with_reducible refine(K3.out _ B.out).mono ?_);rintro _ wx ⟨_,rfl,hbx,rfl⟩;replace X:=Avp (X.out.mono hbx);replace XP:=Avp (XP.out.mono hbx);replace B:=Avp (B.out.le hbx);replace q0:=X.out.cell 0 rfl;replace q1:=X.out.cell 1 rfl;replace q2:=X.out.cell 2 rfl;replace q3:=X.out.cell 3 rfl;replace q4:=X.out.cell 4 rfl;replace q5:=X.out.cell 5 rfl;replace p0:=XP.out.cell 0 rfl;replace p1:=XP.out.cell 1 rfl;replace p2:=XP.out.cell 2 rfl;replace p3:=XP.out.cell 3 rfl;replace p4:=XP.out.cell 4 rfl;clear hbx)
  | (go_at_call 178;(with_reducible refine(La qty _).mono ?_);rintro _ wx ⟨_,rfl,hbx,rfl⟩;replace X:=Avp (X.out.mono hbx);replace XP:=Avp (XP.out.mono hbx);replace B:=Avp (B.out.le hbx);replace q0:=X.out.cell 0 rfl;replace q1:=X.out.cell 1 rfl;replace q2:=X.out.cell 2 rfl;replace q3:=X.out.cell 3 rfl;replace q4:=X.out.cell 4 rfl;replace q5:=X.out.cell 5 rfl;replace p0:=XP.out.cell 0 rfl;replace p1:=XP.out.cell 1 rfl;replace p2:=XP.out.cell 2 rfl;replace p3:=XP.out.cell 3 rfl;replace p4:=XP.out.cell 4 rfl;clear hbx)
  | (go_at_call 86;(with_reducible refine(K4.out _ B.out).mono ?_);rintro _ wx ⟨hbx,A9,n9,c9,k9,l9,rfl,_,_⟩;replace X:=Avp (X.out.mono hbx);replace XP:=Avp (XP.out.mono hbx);replace B:=Avp (B.out.le hbx);replace q0:=X.out.cell 0 rfl;replace q1:=X.out.cell 1 rfl;replace q2:=X.out.cell 2 rfl;replace q3:=X.out.cell 3 rfl;replace q4:=X.out.cell 4 rfl;replace q5:=X.out.cell 5 rfl;replace p0:=XP.out.cell 0 rfl;replace p1:=XP.out.cell 1 rfl;replace p2:=XP.out.cell 2 rfl;replace p3:=XP.out.cell 3 rfl;replace p4:=XP.out.cell 4 rfl;clear hbx)
  | fail)
 all_goals go_ret
 all_goals exact⟨_,rfl,B.out,_,rfl⟩
theorem Anf {w:World} {q:NPl} {n:Int} (key other item data:List UInt8) (qty:Int) (ln:Nat) (A:Option Addr) (m:Nat) (h:FN w q n) (g:Cr w) (hk:key.length<=300) (ho:other.length<=300) (hi:item.length<=300) (hd:Sl encB w A ln m data) (hdl:data.length<=300) :
  Calls Tryz.prog 119 #[.pointer (some ⟨q.N,0,none⟩),.agg #[.int .i64 3,Ac key,Ac other,Ac item,.int .i64 qty,.slice A ln m]] w (Ret w Hv):=by
 have X:=Avp (Bx.new w #[.int .i64 3,Ac key,Ac other,Ac item,.int .i64 qty,.slice A ln m] 25)
 have B:=Avp (show Below w.heap.size w (w.alloc (.cells #[.int .i64 3,Ac key,Ac other,Ac item,.int .i64 qty,.slice A ln m] 25)) by go_grown)
 have F:=Avp (Add (w.alloc (.cells #[.int .i64 3,Ac key,Ac other,Ac item,.int .i64 qty,.slice A ln m] 25)))
 have H:=Avp h
 have K1:=Avp (fun w1 (hb:Below w.heap.size w w1)=>g.nm.ok.key w1 hb key (by omega))
 have K2:=Avp (fun w1 (hb:Below w.heap.size w w1)=>g.nm.ok.key w1 hb other (by omega))
 have K3:=Avp (fun w1 (hb:Below w.heap.size w w1)=>g.nm.ok.item w1 hb item (by omega))
 have K4:=Avp (fun w1 (hb:Below w.heap.size w w1)=>Eu (hd.mono hb) (by omega) (g.nm.mono hb))
 obtain⟨N,hN⟩:∃ N,N=w.heap.size:=⟨_,rfl⟩
 rw[<-hN] at X
 clear h g hk ho hi hd hdl
 go_enter Tryz.func119,Tryz.ntmps119
 go_wp2_with fail
 rw[<-hN]
 clear hN
 refine F.out.mono ?_
 rintro _ w1 ⟨_,rfl,hb1,rfl⟩
 have hb2:Below w1.heap.size w1 (w1.alloc (.cells #[.bool true,.bool false,.bool true,.bool false,.bool false] 283)):=by go_grown
 replace X:=Avp ((X.out.mono hb1).mono hb2)
 replace B:=Avp ((B.out.le hb1).le hb2)
 have XP:=Avp (Bx.new w1 #[.bool true,.bool false,.bool true,.bool false,.bool false] 283)
 have k8:=(H.out.mono B.out).k8
 have q0:=X.out.cell 0 rfl;have q1:=X.out.cell 1 rfl;have q2:=X.out.cell 2 rfl;have q3:=X.out.cell 3 rfl;have q4:=X.out.cell 4 rfl;have q5:=X.out.cell 5 rfl
 have p0:=XP.out.cell 0 rfl;have p1:=XP.out.cell 1 rfl;have p2:=XP.out.cell 2 rfl;have p3:=XP.out.cell 3 rfl;have p4:=XP.out.cell 4 rfl
 clear hb1 hb2 F
 go_wp2_with (first
  | (go_at_call 137;(first | (with_reducible refine(K1.out _ B.out).mono ?_) | (with_reducible refine(K2.out _ B.out).mono ?_));rintro _ wx ⟨_,rfl,hbx,rfl⟩;replace X:=Avp (X.out.mono hbx);replace XP:=Avp (XP.out.mono hbx);replace B:=Avp (B.out.le hbx);replace q0:=X.out.cell 0 rfl;replace q1:=X.out.cell 1 rfl;replace q2:=X.out.cell 2 rfl;replace q3:=X.out.cell 3 rfl;replace q4:=X.out.cell 4 rfl;replace q5:=X.out.cell 5 rfl;replace p0:=XP.out.cell 0 rfl;replace p1:=XP.out.cell 1 rfl;replace p2:=XP.out.cell 2 rfl;replace p3:=XP.out.cell 3 rfl;replace p4:=XP.out.cell 4 rfl;clear hbx)
  | (go_at_call 176;(with_reducible refine(K3.out _ B.out).mono ?_);rintro _ wx ⟨_,rfl,hbx,rfl⟩;replace X:=Avp (X.out.mono hbx);replace XP:=Avp (XP.out.mono hbx);replace B:=Avp (B.out.le hbx);replace q0:=X.out.cell 0 rfl;replace q1:=X.out.cell 1 rfl;replace q2:=X.out.cell 2 rfl;replace q3:=X.out.cell 3 rfl;replace q4:=X.out.cell 4 rfl;replace q5:=X.out.cell 5 rfl;replace p0:=XP.out.cell 0 rfl;replace p1:=XP.out.cell 1 rfl;replace p2:=XP.out.cell 2 rfl;replace p3:=XP.out.cell 3 rfl;replace p4:=XP.out.cell 4 rfl;clear hbx)
  | (go_at_call 178;(with_reducible refine(La qty _).mono ?_);rintro _ wx ⟨_,rfl,hbx,rfl⟩;replace X:=Avp (X.out.mono hbx);replace XP:=Avp (XP.out.mono hbx);replace B:=Avp (B.out.le hbx);replace q0:=X.out.cell 0 rfl;replace q1:=X.out.cell 1 rfl;replace q2:=X.out.cell 2 rfl;replace q3:=X.out.cell 3 rfl;replace q4:=X.out.cell 4 rfl;replace q5:=X.out.cell 5 rfl;replace p0:=XP.out.cell 0 rfl;replace p1:=XP.out.cell 1 rfl;replace p2:=XP.out.cell 2 rfl;replace p3:=XP.out.cell 3 rfl;replace p4:=XP.out.cell 4 rfl;clear hbx)
  | (go_at_call 86;(with_reducible refine(K4.out _ B.out).mono ?_);rintro _ wx ⟨hbx,A9,n9,c9,k9,l9,rfl,_,_⟩;replace X:=Avp (X.out.mono hbx);replace XP:=Avp (XP.out.mono hbx);replace B:=Avp (B.out.le hbx);replace q0:=X.out.cell 0 rfl;replace q1:=X.out.cell 1 rfl;replace q2:=X.out.cell 2 rfl;replace q3:=X.out.cell 3 rfl;replace q4:=X.out.cell 4 rfl;replace q5:=X.out.cell 5 rfl;replace p0:=XP.out.cell 0 rfl;replace p1:=XP.out.cell 1 rfl;replace p2:=XP.out.cell 2 rfl;replace p3:=XP.out.cell 3 rfl;replace p4:=XP.out.cell 4 rfl;clear hbx)
  | fail)
 all_goals go_ret
 all_goals exact⟨_,rfl,B.out,_,rfl⟩
theorem Amz {w:World} {q:NPl} {n:Int} (key other item data:List UInt8) (qty:Int) (ln:Nat) (A:Option Addr) (m:Nat) (h:FN w q n) (g:Cr w) (hk:key.length<=300) (ho:other.length<=300) (hi:item.length<=300) (hd:Sl encB w A ln m data) (hdl:data.length<=300) :
  Calls Tryz.prog 119 #[.pointer (some ⟨q.N,0,none⟩),.agg #[.int .i64 4,Ac key,Ac other,Ac item,.int .i64 qty,.slice A ln m]] w (Ret w Hv):=by
 have X:=Avp (Bx.new w #[.int .i64 4,Ac key,Ac other,Ac item,.int .i64 qty,.slice A ln m] 25)
 have B:=Avp (show Below w.heap.size w (w.alloc (.cells #[.int .i64 4,Ac key,Ac other,Ac item,.int .i64 qty,.slice A ln m] 25)) by go_grown)
 have F:=Avp (Ac2 (w.alloc (.cells #[.int .i64 4,Ac key,Ac other,Ac item,.int .i64 qty,.slice A ln m] 25)))
 have H:=Avp h
 have K1:=Avp (fun w1 (hb:Below w.heap.size w w1)=>g.nm.ok.key w1 hb key (by omega))
 have K2:=Avp (fun w1 (hb:Below w.heap.size w w1)=>g.nm.ok.key w1 hb other (by omega))
 have K3:=Avp (fun w1 (hb:Below w.heap.size w w1)=>g.nm.ok.item w1 hb item (by omega))
 have K4:=Avp (fun w1 (hb:Below w.heap.size w w1)=>Eu (hd.mono hb) (by omega) (g.nm.mono hb))
 obtain⟨N,hN⟩:∃ N,N=w.heap.size:=⟨_,rfl⟩
 rw[<-hN] at X
 clear h g hk ho hi hd hdl
 go_enter Tryz.func119,Tryz.ntmps119
 go_wp2_with fail
 rw[<-hN]
 clear hN
 refine F.out.mono ?_
 rintro _ w1 ⟨_,rfl,hb1,rfl⟩
 have hb2:Below w1.heap.size w1 (w1.alloc (.cells #[.bool true,.bool false,.bool false,.bool false,.bool false] 283)):=by go_grown
 replace X:=Avp ((X.out.mono hb1).mono hb2)
 replace B:=Avp ((B.out.le hb1).le hb2)
 have XP:=Avp (Bx.new w1 #[.bool true,.bool false,.bool false,.bool false,.bool false] 283)
 have k8:=(H.out.mono B.out).k8
 have q0:=X.out.cell 0 rfl;have q1:=X.out.cell 1 rfl;have q2:=X.out.cell 2 rfl;have q3:=X.out.cell 3 rfl;have q4:=X.out.cell 4 rfl;have q5:=X.out.cell 5 rfl
 have p0:=XP.out.cell 0 rfl;have p1:=XP.out.cell 1 rfl;have p2:=XP.out.cell 2 rfl;have p3:=XP.out.cell 3 rfl;have p4:=XP.out.cell 4 rfl
 clear hb1 hb2 F
 go_wp2_with (first
  | (go_at_call 137;(first | (with_reducible refine(K1.out _ B.out).mono ?_) | (with_reducible refine(K2.out _ B.out).mono ?_));rintro _ wx ⟨_,rfl,hbx,rfl⟩;replace X:=Avp (X.out.mono hbx);replace XP:=Avp (XP.out.mono hbx);replace B:=Avp (B.out.le hbx);replace q0:=X.out.cell 0 rfl;replace q1:=X.out.cell 1 rfl;replace q2:=X.out.cell 2 rfl;replace q3:=X.out.cell 3 rfl;replace q4:=X.out.cell 4 rfl;replace q5:=X.out.cell 5 rfl;replace p0:=XP.out.cell 0 rfl;replace p1:=XP.out.cell 1 rfl;replace p2:=XP.out.cell 2 rfl;replace p3:=XP.out.cell 3 rfl;replace p4:=XP.out.cell 4 rfl;clear hbx)
  | (go_at_call 176;(with_reducible refine(K3.out _ B.out).mono ?_);rintro _ wx ⟨_,rfl,hbx,rfl⟩;replace X:=Avp (X.out.mono hbx);replace XP:=Avp (XP.out.mono hbx);replace B:=Avp (B.out.le hbx);replace q0:=X.out.cell 0 rfl;replace q1:=X.out.cell 1 rfl;replace q2:=X.out.cell 2 rfl;replace q3:=X.out.cell 3 rfl;replace q4:=X.out.cell 4 rfl;replace q5:=X.out.cell 5 rfl;replace p0:=XP.out.cell 0 rfl;replace p1:=XP.out.cell 1 rfl;replace p2:=XP.out.cell 2 rfl;replace p3:=XP.out.cell 3 rfl;replace p4:=XP.out.cell 4 rfl;clear hbx)
  | (go_at_call 178;(with_reducible refine(La qty _).mono ?_);rintro _ wx ⟨_,rfl,hbx,rfl⟩;replace X:=Avp (X.out.mono hbx);replace XP:=Avp (XP.out.mono hbx);replace B:=Avp (B.out.le hbx);replace q0:=X.out.cell 0 rfl;replace q1:=X.out.cell 1 rfl;replace q2:=X.out.cell 2 rfl;replace q3:=X.out.cell 3 rfl;replace q4:=X.out.cell 4 rfl;replace q5:=X.out.cell 5 rfl;replace p0:=XP.out.cell 0 rfl;replace p1:=XP.out.cell 1 rfl;replace p2:=XP.out.cell 2 rfl;replace p3:=XP.out.cell 3 rfl;replace p4:=XP.out.cell 4 rfl;clear hbx)
  | (go_at_call 86;(with_reducible refine(K4.out _ B.out).mono ?_);rintro _ wx ⟨hbx,A9,n9,c9,k9,l9,rfl,_,_⟩;replace X:=Avp (X.out.mono hbx);replace XP:=Avp (XP.out.mono hbx);replace B:=Avp (B.out.le hbx);replace q0:=X.out.cell 0 rfl;replace q1:=X.out.cell 1 rfl;replace q2:=X.out.cell 2 rfl;replace q3:=X.out.cell 3 rfl;replace q4:=X.out.cell 4 rfl;replace q5:=X.out.cell 5 rfl;replace p0:=XP.out.cell 0 rfl;replace p1:=XP.out.cell 1 rfl;replace p2:=XP.out.cell 2 rfl;replace p3:=XP.out.cell 3 rfl;replace p4:=XP.out.cell 4 rfl;clear hbx)
  | fail)
 all_goals go_ret
 all_goals exact⟨_,rfl,B.out,_,rfl⟩
theorem Ala {w:World} {q:NPl} {n:Int} (key other item data:List UInt8) (qty:Int) (ln:Nat) (A:Option Addr) (m:Nat) (h:FN w q n) (g:Cr w) (hk:key.length<=300) (ho:other.length<=300) (hi:item.length<=300) (hd:Sl encB w A ln m data) (hdl:data.length<=300) :
  Calls Tryz.prog 119 #[.pointer (some ⟨q.N,0,none⟩),.agg #[.int .i64 5,Ac key,Ac other,Ac item,.int .i64 qty,.slice A ln m]] w (Ret w Hv):=by
 have X:=Avp (Bx.new w #[.int .i64 5,Ac key,Ac other,Ac item,.int .i64 qty,.slice A ln m] 25)
 have B:=Avp (show Below w.heap.size w (w.alloc (.cells #[.int .i64 5,Ac key,Ac other,Ac item,.int .i64 qty,.slice A ln m] 25)) by go_grown)
 have F:=Avp (Ac0 (w.alloc (.cells #[.int .i64 5,Ac key,Ac other,Ac item,.int .i64 qty,.slice A ln m] 25)))
 have H:=Avp h
 have K1:=Avp (fun w1 (hb:Below w.heap.size w w1)=>g.nm.ok.key w1 hb key (by omega))
 have K2:=Avp (fun w1 (hb:Below w.heap.size w w1)=>g.nm.ok.key w1 hb other (by omega))
 have K3:=Avp (fun w1 (hb:Below w.heap.size w w1)=>g.nm.ok.item w1 hb item (by omega))
 have K4:=Avp (fun w1 (hb:Below w.heap.size w w1)=>Eu (hd.mono hb) (by omega) (g.nm.mono hb))
 obtain⟨N,hN⟩:∃ N,N=w.heap.size:=⟨_,rfl⟩
 rw[<-hN] at X
 clear h g hk ho hi hd hdl
 go_enter Tryz.func119,Tryz.ntmps119
 go_wp2_with fail
 rw[<-hN]
 clear hN
 refine F.out.mono ?_
 rintro _ w1 ⟨_,rfl,hb1,rfl⟩
 have hb2:Below w1.heap.size w1 (w1.alloc (.cells #[.bool true,.bool false,.bool false,.bool false,.bool false] 283)):=by go_grown
 replace X:=Avp ((X.out.mono hb1).mono hb2)
 replace B:=Avp ((B.out.le hb1).le hb2)
 have XP:=Avp (Bx.new w1 #[.bool true,.bool false,.bool false,.bool false,.bool false] 283)
 have k8:=(H.out.mono B.out).k8
 have q0:=X.out.cell 0 rfl;have q1:=X.out.cell 1 rfl;have q2:=X.out.cell 2 rfl;have q3:=X.out.cell 3 rfl;have q4:=X.out.cell 4 rfl;have q5:=X.out.cell 5 rfl
 have p0:=XP.out.cell 0 rfl;have p1:=XP.out.cell 1 rfl;have p2:=XP.out.cell 2 rfl;have p3:=XP.out.cell 3 rfl;have p4:=XP.out.cell 4 rfl
 clear hb1 hb2 F
 go_wp2_with (first
  | (go_at_call 137;(first | (with_reducible refine(K1.out _ B.out).mono ?_) | (with_reducible refine(K2.out _ B.out).mono ?_));rintro _ wx ⟨_,rfl,hbx,rfl⟩;replace X:=Avp (X.out.mono hbx);replace XP:=Avp (XP.out.mono hbx);replace B:=Avp (B.out.le hbx);replace q0:=X.out.cell 0 rfl;replace q1:=X.out.cell 1 rfl;replace q2:=X.out.cell 2 rfl;replace q3:=X.out.cell 3 rfl;replace q4:=X.out.cell 4 rfl;replace q5:=X.out.cell 5 rfl;replace p0:=XP.out.cell 0 rfl;replace p1:=XP.out.cell 1 rfl;replace p2:=XP.out.cell 2 rfl;replace p3:=XP.out.cell 3 rfl;replace p4:=XP.out.cell 4 rfl;clear hbx)
  | (go_at_call 176;(with_reducible refine(K3.out _ B.out).mono ?_);rintro _ wx ⟨_,rfl,hbx,rfl⟩;replace X:=Avp (X.out.mono hbx);replace XP:=Avp (XP.out.mono hbx);replace B:=Avp (B.out.le hbx);replace q0:=X.out.cell 0 rfl;replace q1:=X.out.cell 1 rfl;replace q2:=X.out.cell 2 rfl;replace q3:=X.out.cell 3 rfl;replace q4:=X.out.cell 4 rfl;replace q5:=X.out.cell 5 rfl;replace p0:=XP.out.cell 0 rfl;replace p1:=XP.out.cell 1 rfl;replace p2:=XP.out.cell 2 rfl;replace p3:=XP.out.cell 3 rfl;replace p4:=XP.out.cell 4 rfl;clear hbx)
  | (go_at_call 178;(with_reducible refine(La qty _).mono ?_);rintro _ wx ⟨_,rfl,hbx,rfl⟩;replace X:=Avp (X.out.mono hbx);replace XP:=Avp (XP.out.mono hbx);replace B:=Avp (B.out.le hbx);replace q0:=X.out.cell 0 rfl;replace q1:=X.out.cell 1 rfl;replace q2:=X.out.cell 2 rfl;replace q3:=X.out.cell 3 rfl;replace q4:=X.out.cell 4 rfl;replace q5:=X.out.cell 5 rfl;replace p0:=XP.out.cell 0 rfl;replace p1:=XP.out.cell 1 rfl;replace p2:=XP.out.cell 2 rfl;replace p3:=XP.out.cell 3 rfl;replace p4:=XP.out.cell 4 rfl;clear hbx)
  | (go_at_call 86;(with_reducible refine(K4.out _ B.out).mono ?_);rintro _ wx ⟨hbx,A9,n9,c9,k9,l9,rfl,_,_⟩;replace X:=Avp (X.out.mono hbx);replace XP:=Avp (XP.out.mono hbx);replace B:=Avp (B.out.le hbx);replace q0:=X.out.cell 0 rfl;replace q1:=X.out.cell 1 rfl;replace q2:=X.out.cell 2 rfl;replace q3:=X.out.cell 3 rfl;replace q4:=X.out.cell 4 rfl;replace q5:=X.out.cell 5 rfl;replace p0:=XP.out.cell 0 rfl;replace p1:=XP.out.cell 1 rfl;replace p2:=XP.out.cell 2 rfl;replace p3:=XP.out.cell 3 rfl;replace p4:=XP.out.cell 4 rfl;clear hbx)
  | fail)
 all_goals go_ret
 all_goals exact⟨_,rfl,B.out,_,rfl⟩
theorem An9 {w:World} {q:NPl} {n:Int} (key other item data:List UInt8) (qty:Int) (ln:Nat) (A:Option Addr) (m:Nat) (h:FN w q n) (g:Cr w) (hk:key.length<=300) (ho:other.length<=300) (hi:item.length<=300) (hd:Sl encB w A ln m data) (hdl:data.length<=300) :
  Calls Tryz.prog 119 #[.pointer (some ⟨q.N,0,none⟩),.agg #[.int .i64 6,Ac key,Ac other,Ac item,.int .i64 qty,.slice A ln m]] w (Ret w Hv):=by
 have X:=Avp (Bx.new w #[.int .i64 6,Ac key,Ac other,Ac item,.int .i64 qty,.slice A ln m] 25)
 have B:=Avp (show Below w.heap.size w (w.alloc (.cells #[.int .i64 6,Ac key,Ac other,Ac item,.int .i64 qty,.slice A ln m] 25)) by go_grown)
 have F:=Avp (Acw (w.alloc (.cells #[.int .i64 6,Ac key,Ac other,Ac item,.int .i64 qty,.slice A ln m] 25)))
 have H:=Avp h
 have K1:=Avp (fun w1 (hb:Below w.heap.size w w1)=>g.nm.ok.key w1 hb key (by omega))
 have K2:=Avp (fun w1 (hb:Below w.heap.size w w1)=>g.nm.ok.key w1 hb other (by omega))
 have K3:=Avp (fun w1 (hb:Below w.heap.size w w1)=>g.nm.ok.item w1 hb item (by omega))
 have K4:=Avp (fun w1 (hb:Below w.heap.size w w1)=>Eu (hd.mono hb) (by omega) (g.nm.mono hb))
 obtain⟨N,hN⟩:∃ N,N=w.heap.size:=⟨_,rfl⟩
 rw[<-hN] at X
 clear h g hk ho hi hd hdl
 go_enter Tryz.func119,Tryz.ntmps119
 go_wp2_with fail
 rw[<-hN]
 clear hN
 refine F.out.mono ?_
 rintro _ w1 ⟨_,rfl,hb1,rfl⟩
 have hb2:Below w1.heap.size w1 (w1.alloc (.cells #[.bool true,.bool true,.bool true,.bool false,.bool false] 283)):=by go_grown
 replace X:=Avp ((X.out.mono hb1).mono hb2)
 replace B:=Avp ((B.out.le hb1).le hb2)
 have XP:=Avp (Bx.new w1 #[.bool true,.bool true,.bool true,.bool false,.bool false] 283)
 have k8:=(H.out.mono B.out).k8
 have q0:=X.out.cell 0 rfl;have q1:=X.out.cell 1 rfl;have q2:=X.out.cell 2 rfl;have q3:=X.out.cell 3 rfl;have q4:=X.out.cell 4 rfl;have q5:=X.out.cell 5 rfl
 have p0:=XP.out.cell 0 rfl;have p1:=XP.out.cell 1 rfl;have p2:=XP.out.cell 2 rfl;have p3:=XP.out.cell 3 rfl;have p4:=XP.out.cell 4 rfl
 clear hb1 hb2 F
 go_wp2_with (first
  | (go_at_call 137;(first | (with_reducible refine(K1.out _ B.out).mono ?_) | (with_reducible refine(K2.out _ B.out).mono ?_));rintro _ wx ⟨_,rfl,hbx,rfl⟩;replace X:=Avp (X.out.mono hbx);replace XP:=Avp (XP.out.mono hbx);replace B:=Avp (B.out.le hbx);replace q0:=X.out.cell 0 rfl;replace q1:=X.out.cell 1 rfl;replace q2:=X.out.cell 2 rfl;replace q3:=X.out.cell 3 rfl;replace q4:=X.out.cell 4 rfl;replace q5:=X.out.cell 5 rfl;replace p0:=XP.out.cell 0 rfl;replace p1:=XP.out.cell 1 rfl;replace p2:=XP.out.cell 2 rfl;replace p3:=XP.out.cell 3 rfl;replace p4:=XP.out.cell 4 rfl;clear hbx)
  | (go_at_call 176;(with_reducible refine(K3.out _ B.out).mono ?_);rintro _ wx ⟨_,rfl,hbx,rfl⟩;replace X:=Avp (X.out.mono hbx);replace XP:=Avp (XP.out.mono hbx);replace B:=Avp (B.out.le hbx);replace q0:=X.out.cell 0 rfl;replace q1:=X.out.cell 1 rfl;replace q2:=X.out.cell 2 rfl;replace q3:=X.out.cell 3 rfl;replace q4:=X.out.cell 4 rfl;replace q5:=X.out.cell 5 rfl;replace p0:=XP.out.cell 0 rfl;replace p1:=XP.out.cell 1 rfl;replace p2:=XP.out.cell 2 rfl;replace p3:=XP.out.cell 3 rfl;replace p4:=XP.out.cell 4 rfl;clear hbx)
  | (go_at_call 178;(with_reducible refine(La qty _).mono ?_);rintro _ wx ⟨_,rfl,hbx,rfl⟩;replace X:=Avp (X.out.mono hbx);replace XP:=Avp (XP.out.mono hbx);replace B:=Avp (B.out.le hbx);replace q0:=X.out.cell 0 rfl;replace q1:=X.out.cell 1 rfl;replace q2:=X.out.cell 2 rfl;replace q3:=X.out.cell 3 rfl;replace q4:=X.out.cell 4 rfl;replace q5:=X.out.cell 5 rfl;replace p0:=XP.out.cell 0 rfl;replace p1:=XP.out.cell 1 rfl;replace p2:=XP.out.cell 2 rfl;replace p3:=XP.out.cell 3 rfl;replace p4:=XP.out.cell 4 rfl;clear hbx)
  | (go_at_call 86;(with_reducible refine(K4.out _ B.out).mono ?_);rintro _ wx ⟨hbx,A9,n9,c9,k9,l9,rfl,_,_⟩;replace X:=Avp (X.out.mono hbx);replace XP:=Avp (XP.out.mono hbx);replace B:=Avp (B.out.le hbx);replace q0:=X.out.cell 0 rfl;replace q1:=X.out.cell 1 rfl;replace q2:=X.out.cell 2 rfl;replace q3:=X.out.cell 3 rfl;replace q4:=X.out.cell 4 rfl;replace q5:=X.out.cell 5 rfl;replace p0:=XP.out.cell 0 rfl;replace p1:=XP.out.cell 1 rfl;replace p2:=XP.out.cell 2 rfl;replace p3:=XP.out.cell 3 rfl;replace p4:=XP.out.cell 4 rfl;clear hbx)
  | fail)
 all_goals go_ret
 all_goals exact⟨_,rfl,B.out,_,rfl⟩
theorem Al9 {w:World} {q:NPl} {n:Int} (key other item data:List UInt8) (qty:Int) (ln:Nat) (A:Option Addr) (m:Nat) (h:FN w q n) (g:Cr w) (hk:key.length<=300) (ho:other.length<=300) (hi:item.length<=300) (hd:Sl encB w A ln m data) (hdl:data.length<=300) :
  Calls Tryz.prog 119 #[.pointer (some ⟨q.N,0,none⟩),.agg #[.int .i64 7,Ac key,Ac other,Ac item,.int .i64 qty,.slice A ln m]] w (Ret w Hv):=by
 have X:=Avp (Bx.new w #[.int .i64 7,Ac key,Ac other,Ac item,.int .i64 qty,.slice A ln m] 25)
 have B:=Avp (show Below w.heap.size w (w.alloc (.cells #[.int .i64 7,Ac key,Ac other,Ac item,.int .i64 qty,.slice A ln m] 25)) by go_grown)
 have F:=Avp (Adr (w.alloc (.cells #[.int .i64 7,Ac key,Ac other,Ac item,.int .i64 qty,.slice A ln m] 25)))
 have H:=Avp h
 have K1:=Avp (fun w1 (hb:Below w.heap.size w w1)=>g.nm.ok.key w1 hb key (by omega))
 have K2:=Avp (fun w1 (hb:Below w.heap.size w w1)=>g.nm.ok.key w1 hb other (by omega))
 have K3:=Avp (fun w1 (hb:Below w.heap.size w w1)=>g.nm.ok.item w1 hb item (by omega))
 have K4:=Avp (fun w1 (hb:Below w.heap.size w w1)=>Eu (hd.mono hb) (by omega) (g.nm.mono hb))
 obtain⟨N,hN⟩:∃ N,N=w.heap.size:=⟨_,rfl⟩
 rw[<-hN] at X
 clear h g hk ho hi hd hdl
 go_enter Tryz.func119,Tryz.ntmps119
 go_wp2_with fail
 rw[<-hN]
 clear hN
 refine F.out.mono ?_
 rintro _ w1 ⟨_,rfl,hb1,rfl⟩
 have hb2:Below w1.heap.size w1 (w1.alloc (.cells #[.bool true,.bool true,.bool false,.bool false,.bool false] 283)):=by go_grown
 replace X:=Avp ((X.out.mono hb1).mono hb2)
 replace B:=Avp ((B.out.le hb1).le hb2)
 have XP:=Avp (Bx.new w1 #[.bool true,.bool true,.bool false,.bool false,.bool false] 283)
 have k8:=(H.out.mono B.out).k8
 have q0:=X.out.cell 0 rfl;have q1:=X.out.cell 1 rfl;have q2:=X.out.cell 2 rfl;have q3:=X.out.cell 3 rfl;have q4:=X.out.cell 4 rfl;have q5:=X.out.cell 5 rfl
 have p0:=XP.out.cell 0 rfl;have p1:=XP.out.cell 1 rfl;have p2:=XP.out.cell 2 rfl;have p3:=XP.out.cell 3 rfl;have p4:=XP.out.cell 4 rfl
 clear hb1 hb2 F
 go_wp2_with (first
  | (go_at_call 137;(first | (with_reducible refine(K1.out _ B.out).mono ?_) | (with_reducible refine(K2.out _ B.out).mono ?_));rintro _ wx ⟨_,rfl,hbx,rfl⟩;replace X:=Avp (X.out.mono hbx);replace XP:=Avp (XP.out.mono hbx);replace B:=Avp (B.out.le hbx);replace q0:=X.out.cell 0 rfl;replace q1:=X.out.cell 1 rfl;replace q2:=X.out.cell 2 rfl;replace q3:=X.out.cell 3 rfl;replace q4:=X.out.cell 4 rfl;replace q5:=X.out.cell 5 rfl;replace p0:=XP.out.cell 0 rfl;replace p1:=XP.out.cell 1 rfl;replace p2:=XP.out.cell 2 rfl;replace p3:=XP.out.cell 3 rfl;replace p4:=XP.out.cell 4 rfl;clear hbx)
  | (go_at_call 176;(with_reducible refine(K3.out _ B.out).mono ?_);rintro _ wx ⟨_,rfl,hbx,rfl⟩;replace X:=Avp (X.out.mono hbx);replace XP:=Avp (XP.out.mono hbx);replace B:=Avp (B.out.le hbx);replace q0:=X.out.cell 0 rfl;replace q1:=X.out.cell 1 rfl;replace q2:=X.out.cell 2 rfl;replace q3:=X.out.cell 3 rfl;replace q4:=X.out.cell 4 rfl;replace q5:=X.out.cell 5 rfl;replace p0:=XP.out.cell 0 rfl;replace p1:=XP.out.cell 1 rfl;replace p2:=XP.out.cell 2 rfl;replace p3:=XP.out.cell 3 rfl;replace p4:=XP.out.cell 4 rfl;clear hbx)
  | (go_at_call 178;(with_reducible refine(La qty _).mono ?_);rintro _ wx ⟨_,rfl,hbx,rfl⟩;replace X:=Avp (X.out.mono hbx);replace XP:=Avp (XP.out.mono hbx);replace B:=Avp (B.out.le hbx);replace q0:=X.out.cell 0 rfl;replace q1:=X.out.cell 1 rfl;replace q2:=X.out.cell 2 rfl;replace q3:=X.out.cell 3 rfl;replace q4:=X.out.cell 4 rfl;replace q5:=X.out.cell 5 rfl;replace p0:=XP.out.cell 0 rfl;replace p1:=XP.out.cell 1 rfl;replace p2:=XP.out.cell 2 rfl;replace p3:=XP.out.cell 3 rfl;replace p4:=XP.out.cell 4 rfl;clear hbx)
  | (go_at_call 86;(with_reducible refine(K4.out _ B.out).mono ?_);rintro _ wx ⟨hbx,A9,n9,c9,k9,l9,rfl,_,_⟩;replace X:=Avp (X.out.mono hbx);replace XP:=Avp (XP.out.mono hbx);replace B:=Avp (B.out.le hbx);replace q0:=X.out.cell 0 rfl;replace q1:=X.out.cell 1 rfl;replace q2:=X.out.cell 2 rfl;replace q3:=X.out.cell 3 rfl;replace q4:=X.out.cell 4 rfl;replace q5:=X.out.cell 5 rfl;replace p0:=XP.out.cell 0 rfl;replace p1:=XP.out.cell 1 rfl;replace p2:=XP.out.cell 2 rfl;replace p3:=XP.out.cell 3 rfl;replace p4:=XP.out.cell 4 rfl;clear hbx)
  | fail)
 all_goals go_ret
 all_goals exact⟨_,rfl,B.out,_,rfl⟩
theorem Anh {w:World} {q:NPl} {n:Int} (key other item data:List UInt8) (qty:Int) (ln:Nat) (A:Option Addr) (m:Nat) (h:FN w q n) (g:Cr w) (hk:key.length<=300) (ho:other.length<=300) (hi:item.length<=300) (hd:Sl encB w A ln m data) (hdl:data.length<=300) :
  Calls Tryz.prog 119 #[.pointer (some ⟨q.N,0,none⟩),.agg #[.int .i64 8,Ac key,Ac other,Ac item,.int .i64 qty,.slice A ln m]] w (Ret w Hv):=by
 have X:=Avp (Bx.new w #[.int .i64 8,Ac key,Ac other,Ac item,.int .i64 qty,.slice A ln m] 25)
 have B:=Avp (show Below w.heap.size w (w.alloc (.cells #[.int .i64 8,Ac key,Ac other,Ac item,.int .i64 qty,.slice A ln m] 25)) by go_grown)
 have F:=Avp (Adw (w.alloc (.cells #[.int .i64 8,Ac key,Ac other,Ac item,.int .i64 qty,.slice A ln m] 25)))
 have H:=Avp h
 have K1:=Avp (fun w1 (hb:Below w.heap.size w w1)=>g.nm.ok.key w1 hb key (by omega))
 have K2:=Avp (fun w1 (hb:Below w.heap.size w w1)=>g.nm.ok.key w1 hb other (by omega))
 have K3:=Avp (fun w1 (hb:Below w.heap.size w w1)=>g.nm.ok.item w1 hb item (by omega))
 have K4:=Avp (fun w1 (hb:Below w.heap.size w w1)=>Eu (hd.mono hb) (by omega) (g.nm.mono hb))
 obtain⟨N,hN⟩:∃ N,N=w.heap.size:=⟨_,rfl⟩
 rw[<-hN] at X
 clear h g hk ho hi hd hdl
 go_enter Tryz.func119,Tryz.ntmps119
 go_wp2_with fail
 rw[<-hN]
 clear hN
 refine F.out.mono ?_
 rintro _ w1 ⟨_,rfl,hb1,rfl⟩
 have hb2:Below w1.heap.size w1 (w1.alloc (.cells #[.bool false,.bool false,.bool false,.bool false,.bool true] 283)):=by go_grown
 replace X:=Avp ((X.out.mono hb1).mono hb2)
 replace B:=Avp ((B.out.le hb1).le hb2)
 have XP:=Avp (Bx.new w1 #[.bool false,.bool false,.bool false,.bool false,.bool true] 283)
 have k8:=(H.out.mono B.out).k8
 have q0:=X.out.cell 0 rfl;have q1:=X.out.cell 1 rfl;have q2:=X.out.cell 2 rfl;have q3:=X.out.cell 3 rfl;have q4:=X.out.cell 4 rfl;have q5:=X.out.cell 5 rfl
 have p0:=XP.out.cell 0 rfl;have p1:=XP.out.cell 1 rfl;have p2:=XP.out.cell 2 rfl;have p3:=XP.out.cell 3 rfl;have p4:=XP.out.cell 4 rfl
 clear hb1 hb2 F
 go_wp2_with (first
  | (go_at_call 137;(first | (with_reducible refine(K1.out _ B.out).mono ?_) | (with_reducible refine(K2.out _ B.out).mono ?_));rintro _ wx ⟨_,rfl,hbx,rfl⟩;replace X:=Avp (X.out.mono hbx);replace XP:=Avp (XP.out.mono hbx);replace B:=Avp (B.out.le hbx);replace q0:=X.out.cell 0 rfl;replace q1:=X.out.cell 1 rfl;replace q2:=X.out.cell 2 rfl;replace q3:=X.out.cell 3 rfl;replace q4:=X.out.cell 4 rfl;replace q5:=X.out.cell 5 rfl;replace p0:=XP.out.cell 0 rfl;replace p1:=XP.out.cell 1 rfl;replace p2:=XP.out.cell 2 rfl;replace p3:=XP.out.cell 3 rfl;replace p4:=XP.out.cell 4 rfl;clear hbx)
  | (go_at_call 176;(with_reducible refine(K3.out _ B.out).mono ?_);rintro _ wx ⟨_,rfl,hbx,rfl⟩;replace X:=Avp (X.out.mono hbx);replace XP:=Avp (XP.out.mono hbx);replace B:=Avp (B.out.le hbx);replace q0:=X.out.cell 0 rfl;replace q1:=X.out.cell 1 rfl;replace q2:=X.out.cell 2 rfl;replace q3:=X.out.cell 3 rfl;replace q4:=X.out.cell 4 rfl;replace q5:=X.out.cell 5 rfl;replace p0:=XP.out.cell 0 rfl;replace p1:=XP.out.cell 1 rfl;replace p2:=XP.out.cell 2 rfl;replace p3:=XP.out.cell 3 rfl;replace p4:=XP.out.cell 4 rfl;clear hbx)
  | (go_at_call 178;(with_reducible refine(La qty _).mono ?_);rintro _ wx ⟨_,rfl,hbx,rfl⟩;replace X:=Avp (X.out.mono hbx);replace XP:=Avp (XP.out.mono hbx);replace B:=Avp (B.out.le hbx);replace q0:=X.out.cell 0 rfl;replace q1:=X.out.cell 1 rfl;replace q2:=X.out.cell 2 rfl;replace q3:=X.out.cell 3 rfl;replace q4:=X.out.cell 4 rfl;replace q5:=X.out.cell 5 rfl;replace p0:=XP.out.cell 0 rfl;replace p1:=XP.out.cell 1 rfl;replace p2:=XP.out.cell 2 rfl;replace p3:=XP.out.cell 3 rfl;replace p4:=XP.out.cell 4 rfl;clear hbx)
  | (go_at_call 86;(with_reducible refine(K4.out _ B.out).mono ?_);rintro _ wx ⟨hbx,A9,n9,c9,k9,l9,rfl,_,_⟩;replace X:=Avp (X.out.mono hbx);replace XP:=Avp (XP.out.mono hbx);replace B:=Avp (B.out.le hbx);replace q0:=X.out.cell 0 rfl;replace q1:=X.out.cell 1 rfl;replace q2:=X.out.cell 2 rfl;replace q3:=X.out.cell 3 rfl;replace q4:=X.out.cell 4 rfl;replace q5:=X.out.cell 5 rfl;replace p0:=XP.out.cell 0 rfl;replace p1:=XP.out.cell 1 rfl;replace p2:=XP.out.cell 2 rfl;replace p3:=XP.out.cell 3 rfl;replace p4:=XP.out.cell 4 rfl;clear hbx)
  | fail)
 all_goals go_ret
 all_goals exact⟨_,rfl,B.out,_,rfl⟩
theorem Ajb {w:World} {q:NPl} {n:Int} (key other item data:List UInt8) (qty:Int) (ln:Nat) (A:Option Addr) (m:Nat) (h:FN w q n) (g:Cr w) (hk:key.length<=300) (ho:other.length<=300) (hi:item.length<=300) (hd:Sl encB w A ln m data) (hdl:data.length<=300) :
  Calls Tryz.prog 119 #[.pointer (some ⟨q.N,0,none⟩),.agg #[.int .i64 10,Ac key,Ac other,Ac item,.int .i64 qty,.slice A ln m]] w (Ret w Hv):=by
 have X:=Avp (Bx.new w #[.int .i64 10,Ac key,Ac other,Ac item,.int .i64 qty,.slice A ln m] 25)
 have B:=Avp (show Below w.heap.size w (w.alloc (.cells #[.int .i64 10,Ac key,Ac other,Ac item,.int .i64 qty,.slice A ln m] 25)) by go_grown)
 have F:=Avp (Xd (w.alloc (.cells #[.int .i64 10,Ac key,Ac other,Ac item,.int .i64 qty,.slice A ln m] 25)))
 have H:=Avp h
 have K1:=Avp (fun w1 (hb:Below w.heap.size w w1)=>g.nm.ok.key w1 hb key (by omega))
 have K2:=Avp (fun w1 (hb:Below w.heap.size w w1)=>g.nm.ok.key w1 hb other (by omega))
 have K3:=Avp (fun w1 (hb:Below w.heap.size w w1)=>g.nm.ok.item w1 hb item (by omega))
 have K4:=Avp (fun w1 (hb:Below w.heap.size w w1)=>Eu (hd.mono hb) (by omega) (g.nm.mono hb))
 obtain⟨N,hN⟩:∃ N,N=w.heap.size:=⟨_,rfl⟩
 rw[<-hN] at X
 clear h g hk ho hi hd hdl
 go_enter Tryz.func119,Tryz.ntmps119
 go_wp2_with fail
 rw[<-hN]
 clear hN
 refine F.out.mono ?_
 rintro _ w1 ⟨_,rfl,hb1,rfl⟩
 have hb2:Below w1.heap.size w1 (w1.alloc (.cells #[.bool false,.bool false,.bool false,.bool false,.bool false] 283)):=by go_grown
 replace X:=Avp ((X.out.mono hb1).mono hb2)
 replace B:=Avp ((B.out.le hb1).le hb2)
 have XP:=Avp (Bx.new w1 #[.bool false,.bool false,.bool false,.bool false,.bool false] 283)
 have k8:=(H.out.mono B.out).k8
 have q0:=X.out.cell 0 rfl;have q1:=X.out.cell 1 rfl;have q2:=X.out.cell 2 rfl;have q3:=X.out.cell 3 rfl;have q4:=X.out.cell 4 rfl;have q5:=X.out.cell 5 rfl
 have p0:=XP.out.cell 0 rfl;have p1:=XP.out.cell 1 rfl;have p2:=XP.out.cell 2 rfl;have p3:=XP.out.cell 3 rfl;have p4:=XP.out.cell 4 rfl
 clear hb1 hb2 F
 go_wp2_with (first
  | (go_at_call 137;(first | (with_reducible refine(K1.out _ B.out).mono ?_) | (with_reducible refine(K2.out _ B.out).mono ?_));rintro _ wx ⟨_,rfl,hbx,rfl⟩;replace X:=Avp (X.out.mono hbx);replace XP:=Avp (XP.out.mono hbx);replace B:=Avp (B.out.le hbx);replace q0:=X.out.cell 0 rfl;replace q1:=X.out.cell 1 rfl;replace q2:=X.out.cell 2 rfl;replace q3:=X.out.cell 3 rfl;replace q4:=X.out.cell 4 rfl;replace q5:=X.out.cell 5 rfl;replace p0:=XP.out.cell 0 rfl;replace p1:=XP.out.cell 1 rfl;replace p2:=XP.out.cell 2 rfl;replace p3:=XP.out.cell 3 rfl;replace p4:=XP.out.cell 4 rfl;clear hbx)
  | (go_at_call 176;(with_reducible refine(K3.out _ B.out).mono ?_);rintro _ wx ⟨_,rfl,hbx,rfl⟩;replace X:=Avp (X.out.mono hbx);replace XP:=Avp (XP.out.mono hbx);replace B:=Avp (B.out.le hbx);replace q0:=X.out.cell 0 rfl;replace q1:=X.out.cell 1 rfl;replace q2:=X.out.cell 2 rfl;replace q3:=X.out.cell 3 rfl;replace q4:=X.out.cell 4 rfl;replace q5:=X.out.cell 5 rfl;replace p0:=XP.out.cell 0 rfl;replace p1:=XP.out.cell 1 rfl;replace p2:=XP.out.cell 2 rfl;replace p3:=XP.out.cell 3 rfl;replace p4:=XP.out.cell 4 rfl;clear hbx)
  | (go_at_call 178;(with_reducible refine(La qty _).mono ?_);rintro _ wx ⟨_,rfl,hbx,rfl⟩;replace X:=Avp (X.out.mono hbx);replace XP:=Avp (XP.out.mono hbx);replace B:=Avp (B.out.le hbx);replace q0:=X.out.cell 0 rfl;replace q1:=X.out.cell 1 rfl;replace q2:=X.out.cell 2 rfl;replace q3:=X.out.cell 3 rfl;replace q4:=X.out.cell 4 rfl;replace q5:=X.out.cell 5 rfl;replace p0:=XP.out.cell 0 rfl;replace p1:=XP.out.cell 1 rfl;replace p2:=XP.out.cell 2 rfl;replace p3:=XP.out.cell 3 rfl;replace p4:=XP.out.cell 4 rfl;clear hbx)
  | (go_at_call 86;(with_reducible refine(K4.out _ B.out).mono ?_);rintro _ wx ⟨hbx,A9,n9,c9,k9,l9,rfl,_,_⟩;replace X:=Avp (X.out.mono hbx);replace XP:=Avp (XP.out.mono hbx);replace B:=Avp (B.out.le hbx);replace q0:=X.out.cell 0 rfl;replace q1:=X.out.cell 1 rfl;replace q2:=X.out.cell 2 rfl;replace q3:=X.out.cell 3 rfl;replace q4:=X.out.cell 4 rfl;replace q5:=X.out.cell 5 rfl;replace p0:=XP.out.cell 0 rfl;replace p1:=XP.out.cell 1 rfl;replace p2:=XP.out.cell 2 rfl;replace p3:=XP.out.cell 3 rfl;replace p4:=XP.out.cell 4 rfl;clear hbx)
  | fail)
 all_goals go_ret
 all_goals exact⟨_,rfl,B.out,_,rfl⟩
theorem Ain {w:World} {q:NPl} {n:Int} (key other item data:List UInt8) (qty:Int) (ln:Nat) (A:Option Addr) (m:Nat) (h:FN w q n) (g:Cr w) (hk:key.length<=300) (ho:other.length<=300) (hi:item.length<=300) (hd:Sl encB w A ln m data) (hdl:data.length<=300) :
  Calls Tryz.prog 119 #[.pointer (some ⟨q.N,0,none⟩),.agg #[.int .i64 11,Ac key,Ac other,Ac item,.int .i64 qty,.slice A ln m]] w (Ret w Hv):=by
 have X:=Avp (Bx.new w #[.int .i64 11,Ac key,Ac other,Ac item,.int .i64 qty,.slice A ln m] 25)
 have B:=Avp (show Below w.heap.size w (w.alloc (.cells #[.int .i64 11,Ac key,Ac other,Ac item,.int .i64 qty,.slice A ln m] 25)) by go_grown)
 have F:=Avp (Yh (w.alloc (.cells #[.int .i64 11,Ac key,Ac other,Ac item,.int .i64 qty,.slice A ln m] 25)))
 have H:=Avp h
 have K1:=Avp (fun w1 (hb:Below w.heap.size w w1)=>g.nm.ok.key w1 hb key (by omega))
 have K2:=Avp (fun w1 (hb:Below w.heap.size w w1)=>g.nm.ok.key w1 hb other (by omega))
 have K3:=Avp (fun w1 (hb:Below w.heap.size w w1)=>g.nm.ok.item w1 hb item (by omega))
 have K4:=Avp (fun w1 (hb:Below w.heap.size w w1)=>Eu (hd.mono hb) (by omega) (g.nm.mono hb))
 obtain⟨N,hN⟩:∃ N,N=w.heap.size:=⟨_,rfl⟩
 rw[<-hN] at X
 clear h g hk ho hi hd hdl
 go_enter Tryz.func119,Tryz.ntmps119
 go_wp2_with fail
 rw[<-hN]
 clear hN
 refine F.out.mono ?_
 rintro _ w1 ⟨_,rfl,hb1,rfl⟩
 have hb2:Below w1.heap.size w1 (w1.alloc (.cells #[.bool false,.bool false,.bool false,.bool false,.bool false] 283)):=by go_grown
 replace X:=Avp ((X.out.mono hb1).mono hb2)
 replace B:=Avp ((B.out.le hb1).le hb2)
 have XP:=Avp (Bx.new w1 #[.bool false,.bool false,.bool false,.bool false,.bool false] 283)
 have k8:=(H.out.mono B.out).k8
 have q0:=X.out.cell 0 rfl;have q1:=X.out.cell 1 rfl;have q2:=X.out.cell 2 rfl;have q3:=X.out.cell 3 rfl;have q4:=X.out.cell 4 rfl;have q5:=X.out.cell 5 rfl
 have p0:=XP.out.cell 0 rfl;have p1:=XP.out.cell 1 rfl;have p2:=XP.out.cell 2 rfl;have p3:=XP.out.cell 3 rfl;have p4:=XP.out.cell 4 rfl
 clear hb1 hb2 F
 go_wp2_with (first
  | (go_at_call 137;(first | (with_reducible refine(K1.out _ B.out).mono ?_) | (with_reducible refine(K2.out _ B.out).mono ?_));rintro _ wx ⟨_,rfl,hbx,rfl⟩;replace X:=Avp (X.out.mono hbx);replace XP:=Avp (XP.out.mono hbx);replace B:=Avp (B.out.le hbx);replace q0:=X.out.cell 0 rfl;replace q1:=X.out.cell 1 rfl;replace q2:=X.out.cell 2 rfl;replace q3:=X.out.cell 3 rfl;replace q4:=X.out.cell 4 rfl;replace q5:=X.out.cell 5 rfl;replace p0:=XP.out.cell 0 rfl;replace p1:=XP.out.cell 1 rfl;replace p2:=XP.out.cell 2 rfl;replace p3:=XP.out.cell 3 rfl;replace p4:=XP.out.cell 4 rfl;clear hbx)
  | (go_at_call 176;(with_reducible refine(K3.out _ B.out).mono ?_);rintro _ wx ⟨_,rfl,hbx,rfl⟩;replace X:=Avp (X.out.mono hbx);replace XP:=Avp (XP.out.mono hbx);replace B:=Avp (B.out.le hbx);replace q0:=X.out.cell 0 rfl;replace q1:=X.out.cell 1 rfl;replace q2:=X.out.cell 2 rfl;replace q3:=X.out.cell 3 rfl;replace q4:=X.out.cell 4 rfl;replace q5:=X.out.cell 5 rfl;replace p0:=XP.out.cell 0 rfl;replace p1:=XP.out.cell 1 rfl;replace p2:=XP.out.cell 2 rfl;replace p3:=XP.out.cell 3 rfl;replace p4:=XP.out.cell 4 rfl;clear hbx)
  | (go_at_call 178;(with_reducible refine(La qty _).mono ?_);rintro _ wx ⟨_,rfl,hbx,rfl⟩;replace X:=Avp (X.out.mono hbx);replace XP:=Avp (XP.out.mono hbx);replace B:=Avp (B.out.le hbx);replace q0:=X.out.cell 0 rfl;replace q1:=X.out.cell 1 rfl;replace q2:=X.out.cell 2 rfl;replace q3:=X.out.cell 3 rfl;replace q4:=X.out.cell 4 rfl;replace q5:=X.out.cell 5 rfl;replace p0:=XP.out.cell 0 rfl;replace p1:=XP.out.cell 1 rfl;replace p2:=XP.out.cell 2 rfl;replace p3:=XP.out.cell 3 rfl;replace p4:=XP.out.cell 4 rfl;clear hbx)
  | (go_at_call 86;(with_reducible refine(K4.out _ B.out).mono ?_);rintro _ wx ⟨hbx,A9,n9,c9,k9,l9,rfl,_,_⟩;replace X:=Avp (X.out.mono hbx);replace XP:=Avp (XP.out.mono hbx);replace B:=Avp (B.out.le hbx);replace q0:=X.out.cell 0 rfl;replace q1:=X.out.cell 1 rfl;replace q2:=X.out.cell 2 rfl;replace q3:=X.out.cell 3 rfl;replace q4:=X.out.cell 4 rfl;replace q5:=X.out.cell 5 rfl;replace p0:=XP.out.cell 0 rfl;replace p1:=XP.out.cell 1 rfl;replace p2:=XP.out.cell 2 rfl;replace p3:=XP.out.cell 3 rfl;replace p4:=XP.out.cell 4 rfl;clear hbx)
  | fail)
 all_goals go_ret
 all_goals exact⟨_,rfl,B.out,_,rfl⟩
theorem Aiq {w:World} {I:Nat} {a b c:Value} (h:Bx w I [.int .i64 1,a,b,c]):Calls Tryz.prog 203 #[.pointer (some ⟨I,0,none⟩)] w (Ret w (IsB false)):=by
 have h0:=h.cell 0 rfl
 clear h
 go_enter Tryz.func203,Tryz.ntmps203
 go_wp2
 go_ret
 exact Ay rfl (Below.refl _ _)
theorem T7 {w:World} {C:Nat}:(Instr.fieldAt 270 (.pointer (some ⟨C,0,none⟩)) 0).run Tryz.prog w = .ok (.pointer (some ⟨C,0,none⟩)) w:=by simp[go_sem]
theorem Iq {w:World} {C:Nat}:(Instr.fieldAt 270 (.pointer (some ⟨C,0,none⟩)) 3).run Tryz.prog w = .ok (.pointer (some ⟨C,3,none⟩)) w:=by simp[go_sem]
theorem Ajx {w:World} {a b c:Int} {x y:Operand} (h:IntKind.i64.wrap (a - b)=c):(eqGuard .sub 3 x y (.int .i64 a) (.int .i64 b)).run Tryz.prog w = .ok () w∧(Go.binOp .sub 3 (.int .i64 a) (.int .i64 b)).run Tryz.prog w = .ok (.int .i64 c) w:=by
 refine⟨by simp[eqGuard,go_sem],?_⟩
 simp[go_sem]
 exact h
theorem Ac5 {w:World} {I:Nat} {a c:Value} (h:Bx w I [.int .i64 1,a,c,.int .i64 0]):Calls Tryz.prog 184 #[.pointer (some ⟨I,0,none⟩)] w (Ret w (IsI 1)):=by
 have F:=Avp (Aiq h)
 have H:=Avp h
 clear h
 go_enter Tryz.func184,Tryz.ntmps184
 go_wp2_with fail
 refine F.out.mono ?_
 rintro _ w1 ⟨_,rfl,hb1,rfl⟩
 have B1:=Avp hb1
 have H0:=Avp ((H.out.mono hb1).cell 0 rfl);have H3:=Avp ((H.out.mono hb1).cell 3 rfl)
 clear hb1 F
 go_wp2_with fail
 refine Am mixed (by kernel_rfl) ?_
 refine Ab.step (Ob.move Aa.free Has.oldIs) ?_
 refine Ab.step (Ob.nilV Aa.free (Has.new 0 0)) ?_
 refine Ab.step (Ob.fieldV Aa.free (Has.new 1 0) (fun w1=>T7)) ?_
 refine Ab.step (Ob.loadV Aa.free (Has.new 2 0) (fun w1 hb1=>Ew hb1 H0.out)) ?_
 refine Ab.step (Ob.move Aa.free Has.oldIs) ?_
 refine Ab.step (Ob.nilV Aa.free (Has.new 4 0)) ?_
 refine Ab.step (Ob.fieldV Aa.free (Has.new 5 0) (fun w1=>Iq)) ?_
 refine Ab.step (Ob.loadV Aa.free (Has.new 6 0) (fun w1 hb1=>Ew hb1 H3.out)) ?_
 refine Ab.step (Ob.binV Aa.free (Has.new 3 4) (Has.new 7 0) (fun w1=>Ajx (show IntKind.i64.wrap (1 - 0)=1 by decide))) ?_
 refine Ab.step (Ob.assign Aa.free (Has.new 8 0)) ?_
 simp only[Ab,Ao,List.map,Bq,List.reverse_cons,List.reverse_nil,List.nil_append,List.cons_append]
 intro wE hE
 iterate 10 (rintro _ rfl)
 simp only[Act.put,List.setIfInBounds_toArray,List.set_cons_zero,List.set_cons_succ]
 have HE:=Avp (B1.out.le hE)
 clear hE
 go_wp2
 go_ret
 exact Gz rfl HE.out
instance:Grows Hv:=⟨fun _ h=>h⟩
theorem Yz {w:World} {C:Nat}:(Instr.fieldAt 25 (.pointer (some ⟨C,0,none⟩)) 2).run Tryz.prog w = .ok (.pointer (some ⟨C,2,none⟩)) w:=by simp[go_sem]
theorem Aaz:Enters Tryz.prog 126:=enters_of Tryz.func126 (by kernel_rfl) rfl
theorem Abr:Enters Tryz.prog 185:=enters_of Tryz.func185 (by kernel_rfl) rfl
theorem Alb
  {w:World} {q:NPl} {n:Int} (key other item data:List UInt8) (qty:Int) (ln:Nat) (A:Option Addr) (m:Nat) (h:FN w q n) (g:Cr w) (hn:0<=n∧n<=1000) (hk:key.length<=300) (ho:other.length<=300) (hi:item.length<=300) (hd:Sl encB w A ln m data) (hdl:data.length<=300)
  : Calls Tryz.prog 120 #[.pointer (some ⟨q.N,0,none⟩),.agg #[.int .i64 4,Ac key,Ac other,Ac item,.int .i64 qty,.slice A ln m]] w (Ret w (IsI 0)):=by
 have X:=Avp (Bx.new w #[.int .i64 4,Ac key,Ac other,Ac item,.int .i64 qty,.slice A ln m] 25)
 have hb0:Below w.heap.size w (w.alloc (.cells #[.int .i64 4,Ac key,Ac other,Ac item,.int .i64 qty,.slice A ln m] 25)):=by go_grown
 have B:=Avp hb0
 have F:=Avp (Hq key (h.mono hb0) (g.mono hb0) (by omega))
 have H:=Avp h;have G:=Avp g;have HN:=Avp hn
 have HK:=Avp hk;have HI:=Avp hi;have HO:=Avp ho;have HD:=Avp hd;have HDL:=Avp hdl
 obtain⟨N,hN⟩:∃ N,N=w.heap.size:=⟨_,rfl⟩
 rw[<-hN] at X
 clear h g hk ho hi hd hdl hb0 hn
 go_enter Tryz.func120,Tryz.ntmps120
 go_wp2_with fail
 rw[<-hN]
 clear hN
 refine F.out.mono ?_
 rintro _ w1 ⟨_,rfl,hb1,p,rfl,hp⟩
 have hb2:Below w1.heap.size w1 (w1.alloc (.cells (Aw p) 141)):=by go_grown
 replace X:=Avp ((X.out.mono hb1).mono hb2)
 replace B:=Avp ((B.out.le hb1).le hb2)
 have XP:=Avp (Bx.new w1 (Aw p) 141)
 have P:=Avp ((hp.below hb2).at_)
 have q0:=X.out.cell 0 rfl;have q1:=X.out.cell 1 rfl;have q2:=X.out.cell 2 rfl;have q3:=X.out.cell 3 rfl;have q4:=X.out.cell 4 rfl;have q5:=X.out.cell 5 rfl
 have p0:=XP.out.cell 0 rfl;have p1:=XP.out.cell 1 rfl;have p2:=XP.out.cell 2 rfl
 clear hb1 hb2 F hp
 go_wp2
 go_ret
 exact Gz rfl B.out
theorem An7
  {w:World} {q:NPl} {n:Int} (key other item data:List UInt8) (qty:Int) (ln:Nat) (A:Option Addr) (m:Nat) (h:FN w q n) (g:Cr w) (hn:0<=n∧n<=1000) (hk:key.length<=300) (ho:other.length<=300) (hi:item.length<=300) (hd:Sl encB w A ln m data) (hdl:data.length<=300)
  : Calls Tryz.prog 120 #[.pointer (some ⟨q.N,0,none⟩),.agg #[.int .i64 5,Ac key,Ac other,Ac item,.int .i64 qty,.slice A ln m]] w (Ret w (IsI 0)):=by
 have X:=Avp (Bx.new w #[.int .i64 5,Ac key,Ac other,Ac item,.int .i64 qty,.slice A ln m] 25)
 have hb0:Below w.heap.size w (w.alloc (.cells #[.int .i64 5,Ac key,Ac other,Ac item,.int .i64 qty,.slice A ln m] 25)):=by go_grown
 have B:=Avp hb0
 have F:=Avp (Hq key (h.mono hb0) (g.mono hb0) (by omega))
 have H:=Avp h;have G:=Avp g;have HN:=Avp hn
 have HK:=Avp hk;have HI:=Avp hi;have HO:=Avp ho;have HD:=Avp hd;have HDL:=Avp hdl
 obtain⟨N,hN⟩:∃ N,N=w.heap.size:=⟨_,rfl⟩
 rw[<-hN] at X
 clear h g hk ho hi hd hdl hb0 hn
 go_enter Tryz.func120,Tryz.ntmps120
 go_wp2_with fail
 rw[<-hN]
 clear hN
 refine F.out.mono ?_
 rintro _ w1 ⟨_,rfl,hb1,p,rfl,hp⟩
 have hb2:Below w1.heap.size w1 (w1.alloc (.cells (Aw p) 141)):=by go_grown
 replace X:=Avp ((X.out.mono hb1).mono hb2)
 replace B:=Avp ((B.out.le hb1).le hb2)
 have XP:=Avp (Bx.new w1 (Aw p) 141)
 have P:=Avp ((hp.below hb2).at_)
 have q0:=X.out.cell 0 rfl;have q1:=X.out.cell 1 rfl;have q2:=X.out.cell 2 rfl;have q3:=X.out.cell 3 rfl;have q4:=X.out.cell 4 rfl;have q5:=X.out.cell 5 rfl
 have p0:=XP.out.cell 0 rfl;have p1:=XP.out.cell 1 rfl;have p2:=XP.out.cell 2 rfl
 clear hb1 hb2 F hp
 go_wp2
 go_ret
 exact Gz rfl B.out
theorem Ak0
  {w:World} {q:NPl} {n:Int} (key other item data:List UInt8) (qty:Int) (ln:Nat) (A:Option Addr) (m:Nat) (h:FN w q n) (g:Cr w) (hn:0<=n∧n<=1000) (hk:key.length<=300) (ho:other.length<=300) (hi:item.length<=300) (hd:Sl encB w A ln m data) (hdl:data.length<=300)
  : Calls Tryz.prog 120 #[.pointer (some ⟨q.N,0,none⟩),.agg #[.int .i64 10,Ac key,Ac other,Ac item,.int .i64 qty,.slice A ln m]] w (Ret w (IsI 0)):=by
 have X:=Avp (Bx.new w #[.int .i64 10,Ac key,Ac other,Ac item,.int .i64 qty,.slice A ln m] 25)
 have hb0:Below w.heap.size w (w.alloc (.cells #[.int .i64 10,Ac key,Ac other,Ac item,.int .i64 qty,.slice A ln m] 25)):=by go_grown
 have B:=Avp hb0
 have F:=Avp (Hq key (h.mono hb0) (g.mono hb0) (by omega))
 have H:=Avp h;have G:=Avp g;have HN:=Avp hn
 have HK:=Avp hk;have HI:=Avp hi;have HO:=Avp ho;have HD:=Avp hd;have HDL:=Avp hdl
 obtain⟨N,hN⟩:∃ N,N=w.heap.size:=⟨_,rfl⟩
 rw[<-hN] at X
 clear h g hk ho hi hd hdl hb0 hn
 go_enter Tryz.func120,Tryz.ntmps120
 go_wp2_with fail
 rw[<-hN]
 clear hN
 refine F.out.mono ?_
 rintro _ w1 ⟨_,rfl,hb1,p,rfl,hp⟩
 have hb2:Below w1.heap.size w1 (w1.alloc (.cells (Aw p) 141)):=by go_grown
 replace X:=Avp ((X.out.mono hb1).mono hb2)
 replace B:=Avp ((B.out.le hb1).le hb2)
 have XP:=Avp (Bx.new w1 (Aw p) 141)
 have P:=Avp ((hp.below hb2).at_)
 have q0:=X.out.cell 0 rfl;have q1:=X.out.cell 1 rfl;have q2:=X.out.cell 2 rfl;have q3:=X.out.cell 3 rfl;have q4:=X.out.cell 4 rfl;have q5:=X.out.cell 5 rfl
 have p0:=XP.out.cell 0 rfl;have p1:=XP.out.cell 1 rfl;have p2:=XP.out.cell 2 rfl
 clear hb1 hb2 F hp
 go_wp2
 go_ret
 exact Gz rfl B.out
theorem Ak3
  {w:World} {q:NPl} {n:Int} (key other item data:List UInt8) (qty:Int) (ln:Nat) (A:Option Addr) (m:Nat) (h:FN w q n) (g:Cr w) (hn:0<=n∧n<=1000) (hk:key.length<=300) (ho:other.length<=300) (hi:item.length<=300) (hd:Sl encB w A ln m data) (hdl:data.length<=300)
  : Calls Tryz.prog 120 #[.pointer (some ⟨q.N,0,none⟩),.agg #[.int .i64 11,Ac key,Ac other,Ac item,.int .i64 qty,.slice A ln m]] w (Ret w (IsI 0)):=by
 have X:=Avp (Bx.new w #[.int .i64 11,Ac key,Ac other,Ac item,.int .i64 qty,.slice A ln m] 25)
 have hb0:Below w.heap.size w (w.alloc (.cells #[.int .i64 11,Ac key,Ac other,Ac item,.int .i64 qty,.slice A ln m] 25)):=by go_grown
 have B:=Avp hb0
 have F:=Avp (Hq key (h.mono hb0) (g.mono hb0) (by omega))
 have H:=Avp h;have G:=Avp g;have HN:=Avp hn
 have HK:=Avp hk;have HI:=Avp hi;have HO:=Avp ho;have HD:=Avp hd;have HDL:=Avp hdl
 obtain⟨N,hN⟩:∃ N,N=w.heap.size:=⟨_,rfl⟩
 rw[<-hN] at X
 clear h g hk ho hi hd hdl hb0 hn
 go_enter Tryz.func120,Tryz.ntmps120
 go_wp2_with fail
 rw[<-hN]
 clear hN
 refine F.out.mono ?_
 rintro _ w1 ⟨_,rfl,hb1,p,rfl,hp⟩
 have hb2:Below w1.heap.size w1 (w1.alloc (.cells (Aw p) 141)):=by go_grown
 replace X:=Avp ((X.out.mono hb1).mono hb2)
 replace B:=Avp ((B.out.le hb1).le hb2)
 have XP:=Avp (Bx.new w1 (Aw p) 141)
 have P:=Avp ((hp.below hb2).at_)
 have q0:=X.out.cell 0 rfl;have q1:=X.out.cell 1 rfl;have q2:=X.out.cell 2 rfl;have q3:=X.out.cell 3 rfl;have q4:=X.out.cell 4 rfl;have q5:=X.out.cell 5 rfl
 have p0:=XP.out.cell 0 rfl;have p1:=XP.out.cell 1 rfl;have p2:=XP.out.cell 2 rfl
 clear hb1 hb2 F hp
 go_wp2
 go_ret
 exact Gz rfl B.out
theorem Ao7
  {w:World} {q:NPl} {n:Int} (key other item data:List UInt8) (qty:Int) (ln:Nat) (A:Option Addr) (m:Nat) (h:FN w q n) (g:Cr w) (hn:0<=n∧n<=1000) (hk:key.length<=300) (ho:other.length<=300) (hi:item.length<=300) (hd:Sl encB w A ln m data) (hdl:data.length<=300)
  : Calls Tryz.prog 120 #[.pointer (some ⟨q.N,0,none⟩),.agg #[.int .i64 2,Ac key,Ac other,Ac item,.int .i64 qty,.slice A ln m]] w (Ret w (IsI 9)):=by
 have X:=Avp (Bx.new w #[.int .i64 2,Ac key,Ac other,Ac item,.int .i64 qty,.slice A ln m] 25)
 have hb0:Below w.heap.size w (w.alloc (.cells #[.int .i64 2,Ac key,Ac other,Ac item,.int .i64 qty,.slice A ln m] 25)):=by go_grown
 have B:=Avp hb0
 have F:=Avp (Hq key (h.mono hb0) (g.mono hb0) (by omega))
 have H:=Avp h;have G:=Avp g;have HN:=Avp hn
 have HK:=Avp hk;have HI:=Avp hi;have HO:=Avp ho;have HD:=Avp hd;have HDL:=Avp hdl
 obtain⟨N,hN⟩:∃ N,N=w.heap.size:=⟨_,rfl⟩
 rw[<-hN] at X
 clear h g hk ho hi hd hdl hb0 hn
 go_enter Tryz.func120,Tryz.ntmps120
 go_wp2_with fail
 rw[<-hN]
 clear hN
 refine F.out.mono ?_
 rintro _ w1 ⟨_,rfl,hb1,p,rfl,hp⟩
 have hb2:Below w1.heap.size w1 (w1.alloc (.cells (Aw p) 141)):=by go_grown
 replace X:=Avp ((X.out.mono hb1).mono hb2)
 replace B:=Avp ((B.out.le hb1).le hb2)
 have XP:=Avp (Bx.new w1 (Aw p) 141)
 have P:=Avp ((hp.below hb2).at_)
 have q0:=X.out.cell 0 rfl;have q1:=X.out.cell 1 rfl;have q2:=X.out.cell 2 rfl;have q3:=X.out.cell 3 rfl;have q4:=X.out.cell 4 rfl;have q5:=X.out.cell 5 rfl
 have p0:=XP.out.cell 0 rfl;have p1:=XP.out.cell 1 rfl;have p2:=XP.out.cell 2 rfl
 clear hb1 hb2 F hp
 have Q:=Avp (Amt (nm:=item) P.out (G.out.nm.ok.mono B.out) Co)
 rw[Ly] at Q
 go_wp2_with fail
 refine Q.out.mono ?_
 rintro _ w2 ⟨_,rfl,hb2,rfl⟩
 replace B:=Avp (B.out.le hb2)
 clear hb2 q0 q1 q2 q3 q4 q5 p0 p1 p2 Q
 go_wp2
 go_ret
 exact Gz rfl B.out
theorem Alu
  {w:World} {q:NPl} {n:Int} (key other item data:List UInt8) (qty:Int) (ln:Nat) (A:Option Addr) (m:Nat) (h:FN w q n) (g:Cr w) (hn:0<=n∧n<=1000) (hk:key.length<=300) (ho:other.length<=300) (hi:item.length<=300) (hd:Sl encB w A ln m data) (hdl:data.length<=300)
  : Calls Tryz.prog 120 #[.pointer (some ⟨q.N,0,none⟩),.agg #[.int .i64 3,Ac key,Ac other,Ac item,.int .i64 qty,.slice A ln m]] w (Ret w (IsI 9)):=by
 have X:=Avp (Bx.new w #[.int .i64 3,Ac key,Ac other,Ac item,.int .i64 qty,.slice A ln m] 25)
 have hb0:Below w.heap.size w (w.alloc (.cells #[.int .i64 3,Ac key,Ac other,Ac item,.int .i64 qty,.slice A ln m] 25)):=by go_grown
 have B:=Avp hb0
 have F:=Avp (Hq key (h.mono hb0) (g.mono hb0) (by omega))
 have H:=Avp h;have G:=Avp g;have HN:=Avp hn
 have HK:=Avp hk;have HI:=Avp hi;have HO:=Avp ho;have HD:=Avp hd;have HDL:=Avp hdl
 obtain⟨N,hN⟩:∃ N,N=w.heap.size:=⟨_,rfl⟩
 rw[<-hN] at X
 clear h g hk ho hi hd hdl hb0 hn
 go_enter Tryz.func120,Tryz.ntmps120
 go_wp2_with fail
 rw[<-hN]
 clear hN
 refine F.out.mono ?_
 rintro _ w1 ⟨_,rfl,hb1,p,rfl,hp⟩
 have hb2:Below w1.heap.size w1 (w1.alloc (.cells (Aw p) 141)):=by go_grown
 replace X:=Avp ((X.out.mono hb1).mono hb2)
 replace B:=Avp ((B.out.le hb1).le hb2)
 have XP:=Avp (Bx.new w1 (Aw p) 141)
 have P:=Avp ((hp.below hb2).at_)
 have q0:=X.out.cell 0 rfl;have q1:=X.out.cell 1 rfl;have q2:=X.out.cell 2 rfl;have q3:=X.out.cell 3 rfl;have q4:=X.out.cell 4 rfl;have q5:=X.out.cell 5 rfl
 have p0:=XP.out.cell 0 rfl;have p1:=XP.out.cell 1 rfl;have p2:=XP.out.cell 2 rfl
 clear hb1 hb2 F hp
 have Q:=Avp (Amt (nm:=item) P.out (G.out.nm.ok.mono B.out) Co)
 rw[Ly] at Q
 go_wp2_with fail
 refine Q.out.mono ?_
 rintro _ w2 ⟨_,rfl,hb2,rfl⟩
 replace B:=Avp (B.out.le hb2)
 clear hb2 q0 q1 q2 q3 q4 q5 p0 p1 p2 Q
 go_wp2
 go_ret
 exact Gz rfl B.out
theorem Alg
  {w:World} {q:NPl} {n:Int} (key other item data:List UInt8) (qty:Int) (ln:Nat) (A:Option Addr) (m:Nat) (h:FN w q n) (g:Cr w) (hn:0<=n∧n<=1000) (hk:key.length<=300) (ho:other.length<=300) (hi:item.length<=300) (hd:Sl encB w A ln m data) (hdl:data.length<=300)
  : Calls Tryz.prog 120 #[.pointer (some ⟨q.N,0,none⟩),.agg #[.int .i64 6,Ac key,Ac other,Ac item,.int .i64 qty,.slice A ln m]] w (Ret w (IsI 9)):=by
 have X:=Avp (Bx.new w #[.int .i64 6,Ac key,Ac other,Ac item,.int .i64 qty,.slice A ln m] 25)
 have hb0:Below w.heap.size w (w.alloc (.cells #[.int .i64 6,Ac key,Ac other,Ac item,.int .i64 qty,.slice A ln m] 25)):=by go_grown
 have B:=Avp hb0
 have F:=Avp (Hq key (h.mono hb0) (g.mono hb0) (by omega))
 have H:=Avp h;have G:=Avp g;have HN:=Avp hn
 have HK:=Avp hk;have HI:=Avp hi;have HO:=Avp ho;have HD:=Avp hd;have HDL:=Avp hdl
 obtain⟨N,hN⟩:∃ N,N=w.heap.size:=⟨_,rfl⟩
 rw[<-hN] at X
 clear h g hk ho hi hd hdl hb0 hn
 go_enter Tryz.func120,Tryz.ntmps120
 go_wp2_with fail
 rw[<-hN]
 clear hN
 refine F.out.mono ?_
 rintro _ w1 ⟨_,rfl,hb1,p,rfl,hp⟩
 have hb2:Below w1.heap.size w1 (w1.alloc (.cells (Aw p) 141)):=by go_grown
 replace X:=Avp ((X.out.mono hb1).mono hb2)
 replace B:=Avp ((B.out.le hb1).le hb2)
 have XP:=Avp (Bx.new w1 (Aw p) 141)
 have P:=Avp ((hp.below hb2).at_)
 have q0:=X.out.cell 0 rfl;have q1:=X.out.cell 1 rfl;have q2:=X.out.cell 2 rfl;have q3:=X.out.cell 3 rfl;have q4:=X.out.cell 4 rfl;have q5:=X.out.cell 5 rfl
 have p0:=XP.out.cell 0 rfl;have p1:=XP.out.cell 1 rfl;have p2:=XP.out.cell 2 rfl
 clear hb1 hb2 F hp
 have Q:=Avp (Amt (nm:=item) P.out (G.out.nm.ok.mono B.out) Co)
 rw[Ly] at Q
 go_wp2_with fail
 refine Q.out.mono ?_
 rintro _ w2 ⟨_,rfl,hb2,rfl⟩
 replace B:=Avp (B.out.le hb2)
 clear hb2 q0 q1 q2 q3 q4 q5 p0 p1 p2 Q
 go_wp2
 go_ret
 exact Gz rfl B.out
theorem Ao6
  {w:World} {q:NPl} {n:Int} (key other item data:List UInt8) (qty:Int) (ln:Nat) (A:Option Addr) (m:Nat) (h:FN w q n) (g:Cr w) (hn:0<=n∧n<=1000) (hk:key.length<=300) (ho:other.length<=300) (hi:item.length<=300) (hd:Sl encB w A ln m data) (hdl:data.length<=300)
  : Calls Tryz.prog 120 #[.pointer (some ⟨q.N,0,none⟩),.agg #[.int .i64 1,Ac key,Ac other,Ac item,.int .i64 qty,.slice A ln m]] w (Ret w Hv):=by
 have X:=Avp (Bx.new w #[.int .i64 1,Ac key,Ac other,Ac item,.int .i64 qty,.slice A ln m] 25)
 have hb0:Below w.heap.size w (w.alloc (.cells #[.int .i64 1,Ac key,Ac other,Ac item,.int .i64 qty,.slice A ln m] 25)):=by go_grown
 have B:=Avp hb0
 have F:=Avp (Hq key (h.mono hb0) (g.mono hb0) (by omega))
 have H:=Avp h;have G:=Avp g;have HN:=Avp hn
 have HK:=Avp hk;have HI:=Avp hi;have HO:=Avp ho;have HD:=Avp hd;have HDL:=Avp hdl
 obtain⟨N,hN⟩:∃ N,N=w.heap.size:=⟨_,rfl⟩
 rw[<-hN] at X
 clear h g hk ho hi hd hdl hb0 hn
 go_enter Tryz.func120,Tryz.ntmps120
 go_wp2_with fail
 rw[<-hN]
 clear hN
 refine F.out.mono ?_
 rintro _ w1 ⟨_,rfl,hb1,p,rfl,hp⟩
 have hb2:Below w1.heap.size w1 (w1.alloc (.cells (Aw p) 141)):=by go_grown
 replace X:=Avp ((X.out.mono hb1).mono hb2)
 replace B:=Avp ((B.out.le hb1).le hb2)
 have XP:=Avp (Bx.new w1 (Aw p) 141)
 have P:=Avp ((hp.below hb2).at_)
 have q0:=X.out.cell 0 rfl;have q1:=X.out.cell 1 rfl;have q2:=X.out.cell 2 rfl;have q3:=X.out.cell 3 rfl;have q4:=X.out.cell 4 rfl;have q5:=X.out.cell 5 rfl
 have p0:=XP.out.cell 0 rfl;have p1:=XP.out.cell 1 rfl;have p2:=XP.out.cell 2 rfl
 clear hb1 hb2 F hp
 have b3:Below (w1.alloc (.cells (Aw p) 141)).heap.size (w1.alloc (.cells (Aw p) 141)) ((w1.alloc (.cells (Aw p) 141)).alloc (.cells #[Ac item,.int .i64 qty] 204)):=by go_grown
 have SL:=Avp (Sl.new Xn (w1.alloc (.cells (Aw p) 141)) [(item,qty)] (by simp) #[Ac item,.int .i64 qty] (by simp[Enc.all,Xn]) 204)
 replace B:=Avp (B.out.le b3)
 have C:=Avp (Ahw key (H.out.mono B.out) (G.out.mono B.out) (by have:=HK.out;omega) SL.out (by simp) (by simp;have:=HI.out;omega) HN.out)
 clear b3
 rw[World.size_alloc] at C
 go_wp2_with fail
 refine C.out.mono ?_
 rintro _ w2 ⟨_,rfl,hb2,e2,rfl⟩
 replace B:=Avp (B.out.le hb2)
 clear hb2 q0 q1 q2 q3 q4 q5 p0 p1 p2 C
 go_wp2
 go_ret
 exact⟨_,rfl,B.out,e2,rfl⟩
theorem Aox
  {w:World} {q:NPl} {n:Int} (key other item data:List UInt8) (qty:Int) (ln:Nat) (A:Option Addr) (m:Nat) (h:FN w q n) (g:Cr w) (hn:0<=n∧n<=1000) (hk:key.length<=300) (ho:other.length<=300) (hi:item.length<=300) (hd:Sl encB w A ln m data) (hdl:data.length<=300)
  : Calls Tryz.prog 120 #[.pointer (some ⟨q.N,0,none⟩),.agg #[.int .i64 7,Ac key,Ac other,Ac item,.int .i64 qty,.slice A ln m]] w (Ret w Hv):=by
 have X:=Avp (Bx.new w #[.int .i64 7,Ac key,Ac other,Ac item,.int .i64 qty,.slice A ln m] 25)
 have hb0:Below w.heap.size w (w.alloc (.cells #[.int .i64 7,Ac key,Ac other,Ac item,.int .i64 qty,.slice A ln m] 25)):=by go_grown
 have B:=Avp hb0
 have F:=Avp (Hq key (h.mono hb0) (g.mono hb0) (by omega))
 have H:=Avp h;have G:=Avp g;have HN:=Avp hn
 have HK:=Avp hk;have HI:=Avp hi;have HO:=Avp ho;have HD:=Avp hd;have HDL:=Avp hdl
 obtain⟨N,hN⟩:∃ N,N=w.heap.size:=⟨_,rfl⟩
 rw[<-hN] at X
 clear h g hk ho hi hd hdl hb0 hn
 go_enter Tryz.func120,Tryz.ntmps120
 go_wp2_with fail
 rw[<-hN]
 clear hN
 refine F.out.mono ?_
 rintro _ w1 ⟨_,rfl,hb1,p,rfl,hp⟩
 have hb2:Below w1.heap.size w1 (w1.alloc (.cells (Aw p) 141)):=by go_grown
 replace X:=Avp ((X.out.mono hb1).mono hb2)
 replace B:=Avp ((B.out.le hb1).le hb2)
 have XP:=Avp (Bx.new w1 (Aw p) 141)
 have P:=Avp ((hp.below hb2).at_)
 have q0:=X.out.cell 0 rfl;have q1:=X.out.cell 1 rfl;have q2:=X.out.cell 2 rfl;have q3:=X.out.cell 3 rfl;have q4:=X.out.cell 4 rfl;have q5:=X.out.cell 5 rfl
 have p0:=XP.out.cell 0 rfl;have p1:=XP.out.cell 1 rfl;have p2:=XP.out.cell 2 rfl
 clear hb1 hb2 F hp
 have K2:=Avp (X.out.cell 2 rfl);have P0:=Avp p0;have P1:=Avp p1;have P2:=Avp p2
 have LN:=Avp (fun w5 (hb5:Below (w1.alloc (.cells (Aw p) 141)).heap.size (w1.alloc (.cells (Aw p) 141)) w5)=>Ahy (P.out.mono hb5 fun _ x=>x) (G.out.nm.ok.mono (B.out.le hb5)))
 have CM:=Avp (fun w5 (hb5:Below (w1.alloc (.cells (Aw p) 141)).heap.size (w1.alloc (.cells (Aw p) 141)) w5)=>Ahw other (H.out.mono (B.out.le hb5)) (G.out.mono (B.out.le hb5)) (by have:=HO.out;omega) (Sl.nil_ Xn w5) (by omega) (by simp) HN.out)
 go_wp2_with fail
 refine Am mixed (by kernel_rfl) ?_
 refine Ab.step (Ob.move Aa.free Has.oldIs) ?_
 refine Ab.step (Ob.fieldV Aa.free Has.oldIs (fun w1=>Yz)) ?_
 refine Ab.step (Ob.loadV Aa.free (Has.new 1 0) (fun w1 hb1=>Fd hb1 K2.out)) ?_
 refine Ab.step (Ob.loadV Aa.free Has.oldIs (fun w1 hb1=>KAt.load ⟨P0.out,P1.out,P2.out⟩ hb1)) ?_
 refine Ab.step (Ob.call1V Aa.free Aaz (Has.new 3 0) (fun w1 hb1=>LN.out w1 hb1)) ?_
 refine Ab.step (Ob.call3V Aa.free Abr (Has.new 0 4) (Has.new 2 2) (Has.new 4 0) (fun w1 hb1=>CM.out w1 hb1)) ?_
 refine Ab.step (Ob.assign Aa.free (Has.new 5 0)) ?_
 simp only[Ab,Ao,List.map,Bq,List.reverse_cons,List.reverse_nil,List.nil_append,List.cons_append]
 intro wE hE
 iterate 5 (rintro _ rfl)
 rintro _ ⟨e5,rfl⟩
 rintro _ ⟨e6,rfl⟩
 simp only[Act.put,List.setIfInBounds_toArray,List.set_cons_zero,List.set_cons_succ]
 replace B:=Avp (B.out.le hE)
 clear hE q0 q1 q2 q3 q4 q5 p0 p1 p2
 go_wp2
 go_ret
 exact⟨_,rfl,B.out,e6,rfl⟩
theorem Adf {A:Option Addr} {n c:Nat} {l:List EnE} {w:World} (h:Sl encE w A n c l) (hs:n<=100000):Calls Tryz.prog 204 #[.slice A n c] w (Ret w (M0 encE 143 w.heap.size l)):=by
 have hq:=fun w a n c=>Lib.run_eql_slice_nil (P:=Tryz.prog) w 118 143 a n c 0 0 Tryz.underlying118
 have HS:=Avp hs;have HL:=Avp h.len
 cases A with
 | none=>
  have h1:=h.nil rfl
  have h2:=h.cap
  have h3:n=0:=by omega
  subst h1 h3
  have:l=[]:=List.eq_nil_of_length_eq_zero h.len.symm
  subst this
  clear h h2 hs
  go_enter Tryz.func204,Tryz.ntmps204
  go_wp2
  go_ret
  exact⟨_,rfl,Below.refl _ _,Ag.nil_ _ _ _ _⟩
 | some a=>
  have HB:=Avp ((Below.refl w.heap.size w).alloc (Nat.le_refl _) (.cells #[] 143))
  have H:=Avp (h.mono HB.out)
  have HZ:=Avp (Ag.zero encE 143 w)
  clear h hs
  go_enter Tryz.func204,Tryz.ntmps204
  go_wp2_with (first
   | (at_builtin;refine Aj (B:=w.heap.size) (l:=([]:List EnE)) Asw rfl rfl Tryz.underlying118 rfl rfl HZ.out H.out (by have:=HL.out;have:=HS.out;simp;omega) (by simp) ?_;intro v1 w1 ho1 hg1 _;have HO1:=Avp ho1;have HG1:=Avp hg1;clear ho1 hg1)
   | fail)
  go_ret
  exact⟨_,rfl,HB.out.grown HG1.out (by simp) (fun q hq=>(HZ.out.own q hq).1),HO1.out⟩
def Arg (B:Nat) (w:World) (v:Value):Prop:=∃ (e:EnE) (b:Bool),v = .tuple #[enV e,.bool b]∧Jj (fun q=>B<=q∧q<w.heap.size) w e
theorem Afz (D:Nat->Prop) (w:World):Jj D w ⟨[],Bj,⟨none,0,0,none,0,0,none,0,0⟩⟩:=⟨J3 D w,⟨by simp,Co⟩⟩
theorem Auk {D:Nat->Prop} {w:World} {e:EnE} (h:Jj D w e) (hn:Bk w):Calls Tryz.prog 205 #[enV e] w (Ret w (Arg w.heap.size)):=by
 obtain⟨w3,hw3⟩:∃ w3,w3=(w.alloc (.cells (enC e) 143)).alloc (.cells enZ 143):=⟨_,rfl⟩
 obtain⟨N,hN⟩:∃ N,N=w.heap.size:=⟨_,rfl⟩
 have EN:=Avp hN
 have hb0:Below w.heap.size w w3:=by rw[hw3];go_grown
 have X0:=Avp (show Bx w3 N (enC e).toList by rw[hw3,hN];exact(Bx.new w (enC e) 143).mono (by go_grown))
 have XR:=Avp (show Bx w3 (N+1) enZ.toList by rw[hw3,hN];have:=Bx.new (w.alloc (.cells (enC e) 143)) enZ 143;rw[World.size_alloc] at this;exact this)
 have SZ:=Avp (show w3.heap.size=N+1+1 by rw[hw3,hN];simp)
 have hb4:Below w3.heap.size w3 (w3.alloc (.cells (enC e) 143)):=by go_grown
 have SL:=Avp (Sl.new encE w3 [e] (by simp) (enC e) (by simp[Enc.all,encE]) 143)
 rw[SZ.out] at SL
 have HB:=Avp (hb0.le hb4)
 have HIN:=Avp (show Cb (fun _=>True) (w3.alloc (.cells (enC e) 143)) (some ⟨N+1+1,0,none⟩) 1 1 [e.s] from⟨[e],rfl,SL.out,fun _ _=>trivial,fun x hx=>by
  rw[List.mem_singleton.1 hx];exact(h.mono (hb0.le hb4) (fun _ x=>x)).mono (Below.refl _ _) fun _ _=>trivial⟩)
 have F:=Avp (Acy HIN.out (hn.mono (hb0.le hb4)) (by simp))
 unfold Gh at F
 have HW3:=Avp hw3;have HB4:=Avp hb4
 have x0:=X0.out.cell 0 rfl;have x1:=X0.out.cell 1 rfl;have x2:=X0.out.cell 2 rfl;have x3:=X0.out.cell 3 rfl
 have EK:=Avp h.ok
 clear h hn hb0 hb4 hw3
 go_enter Tryz.func205,Tryz.ntmps205
 go_wp2_with fail
 rw[<-hN,<-HW3.out]
 clear hN HW3
 refine F.out.mono ?_
 rintro _ w5 ⟨v5,rfl,hb5,hv5⟩
 have XR5:=Avp (XR.out.mono (HB4.out.le hb5))
 have B5:=Avp (HB.out.le hb5)
 have S5:=Avp (show N+2<=w5.heap.size by have:=SZ.out;have:=(HB4.out.le hb5).size;omega)
 clear hb5 F x0 x1 x2 x3
 cases ho:(Cf [e.s]&&Cf []) with
 | false=>
  rw[ho] at hv5
  simp only[Bool.false_eq_true,if_false] at hv5
  subst hv5
  clear ho
  go_wp2_with ((with_reducible refine Ai (N+1) ?_ ?_);(next=>rfl))
  unfold Az
  refine Af (J:=N+1) rfl rfl rfl rfl rfl XR5.out (show(Tryz.prog.info? 143).map (·.size)=some 4 by kernel_rfl) rfl (by simp[Value.oneCell']) ?_
  intro w9 hx9 hu9
  have X9:=Avp hx9;have U9:=Avp hu9
  clear hx9 hu9
  go_wp2
  refine bodyPost_ret (v:=.tuple #[.agg enZ,.bool false]) ?_ rfl ?_
  ·exact Ah Tryz.results205 rfl rfl X9.out Tryz.underlying143 rfl (show(Tryz.prog.info? 143).map (·.size)=some 4 by kernel_rfl)
  have en:=EN.out
  exact⟨_,rfl,Ae B5.out (U9.out.below (by omega)),⟨[],Bj,⟨none,0,0,none,0,0,none,0,0⟩⟩,false,rfl,Afz _ _⟩
 | true=>
  rw[ho] at hv5
  simp only[if_true] at hv5
  obtain⟨u5,rfl,A5,n5,c5,rfl,he5⟩:=hv5
  clear ho
  obtain⟨b,o,m,c2,e2,rfl,rfl,hes,hei,y0,y1,y2,y3,hrest,_⟩:=Cb.uncons (x:=e.s) (t:=[]) he5
  have hm:=hrest.len
  simp only[List.length_nil] at hm
  subst hm
  have HEI:=Avp hei
  have HES:=Avp hes
  clear he5 hei hrest hes
  go_wp2_with ((with_reducible refine Ai (N+1) ?_ ?_);(next=>rfl))
  unfold Az
  refine Af (J:=N+1) rfl rfl rfl rfl rfl XR5.out (show(Tryz.prog.info? 143).map (·.size)=some 4 by kernel_rfl) rfl (by simp[Value.oneCell']) ?_
  intro w9 hx9 hu9
  have X9:=Avp hx9;have U9:=Avp hu9
  clear hx9 hu9
  clear y0 y1 y2 y3
  go_wp2
  refine bodyPost_ret (v:=.tuple #[enV e2,.bool true]) ?_ rfl ?_
  ·exact Ah Tryz.results205 rfl rfl X9.out Tryz.underlying143 rfl (show(Tryz.prog.info? 143).map (·.size)=some 4 by kernel_rfl)
  have en:=EN.out
  have h5:=HB.out.size
  refine⟨_,rfl,Ae B5.out (U9.out.below (by omega)),e2,true,rfl,⟨?_,HEI.out.ok⟩⟩
  have hz:=SZ.out
  exact(HEI.out.at_.wrote U9.out.wrote fun q hq=>⟨by have:=hq.1;rw[World.size_alloc] at this;omega,by simp⟩).dom fun q hq=>⟨by have:=hq.1;rw[World.size_alloc] at this;omega,by rw[U9.out.size];exact hq.2⟩
section
variable {ops:List Oper} {Fs:List VT} {w0:World} {a0:Act} {i:Nat} {d:Option Tmp} {ty:TypeId} {pos:String} {after:Array Edge} {g:Option (Nat×Bool)}
theorem Ob.lenE {x:Operand} {A:Option Addr} {n c:Nat} (hw:Aa ops Fs w0 a0 i ⟨d,.call ⟨.builtin .len,#[x],#[118]⟩,ty,pos,after,g⟩) (hx:Has ops Fs w0 a0 i ⟨d,.call ⟨.builtin .len,#[x],#[118]⟩,ty,pos,after,g⟩ x (Is (.slice A n c))) (_:True) :
  Ob Tryz.prog ops Fs w0 a0 i ⟨d,.call ⟨.builtin .len,#[x],#[118]⟩,ty,pos,after,g⟩ (Is (.int .i64 (n:Nat))):=
 Ob.stay hw fun a w cx=>by
  have e:a.eval x = .slice A n c:=hx a w cx
  refine⟨.int .i64 (n:Nat),?_,rfl⟩
  generalize a.eval=ρ at e
  simp[execOp,resolve,invoke,builtin,e,go_sem]
end
def Amc (I:Nat) (w:World) (e:Ending) (w':World):Prop:=(∃ k:Int,e = .returned (.int .i64 k))∧An I none w w'
theorem Kw {w:World} {C:Nat}:(Instr.fieldAt 270 (.pointer (some ⟨C,0,none⟩)) 1).run Tryz.prog w = .ok (.pointer (some ⟨C,1,none⟩)) w:=by simp[go_sem]
theorem Aft {w:World} {C:Nat}:(Instr.fieldAt 270 (.pointer (some ⟨C,0,none⟩)) 2).run Tryz.prog w = .ok (.pointer (some ⟨C,2,none⟩)) w:=by simp[go_sem]
theorem Ki {w0 w:World} {C k n c:Nat} {A:Option Addr} (hb:Below w0.heap.size w0 w) (h:w0.cell? ⟨C,k,none⟩=some (.slice A n c)):(Instr.loadAt 118 (.pointer (some ⟨C,k,none⟩))).run Tryz.prog w = .ok (.slice A n c) w:=by
 have c1:=Ad hb h
 simp[go_sem,c1]
theorem Adp {w:World} {a b:Int} {x y:Operand} (r:Bool) (h:decide (b<a)=r):(eqGuard .gtr 3 x y (.int .i64 a) (.int .i64 b)).run Tryz.prog w = .ok () w∧(Go.binOp .gtr 3 (.int .i64 a) (.int .i64 b)).run Tryz.prog w = .ok (.bool r) w:=by
 refine⟨by simp[eqGuard,go_sem],?_⟩
 rw[<-h]
 simp[go_sem]
theorem As4 {w:World} {I:Nat} {A:Option Addr} {c:Nat} (h:Bx w I [.int .i64 1,.slice none 0 0,.int .i64 0,.int .i64 0]) (hs:Sl encE w A 0 c []):Calls Tryz.prog 131 #[.pointer (some ⟨I,0,none⟩),.slice A 0 c] w (Amc I w):=by
 have F1:=Avp (Aiq h)
 have F2:=Avp (fun w1 (hb:Below w.heap.size w w1)=>Adf (hs.mono hb) (by omega))
 have F3:=Avp (fun w1 (hb:Below w.heap.size w w1)=>Ac5 (h.mono hb))
 have H:=Avp h
 clear h hs
 go_enter Tryz.func131,Tryz.ntmps131
 go_wp2_with fail
 refine F1.out.mono ?_
 rintro _ w1 ⟨_,rfl,hb1,rfl⟩
 have B:=Avp hb1
 clear hb1 F1
 go_wp2_with fail
 refine(F2.out w1 B.out).mono ?_
 rintro _ w2 ⟨v2,rfl,hb2,hv2⟩
 obtain⟨A2,c2,rfl,_⟩:=Ag.sl hv2
 replace B:=Avp (B.out.le hb2)
 clear hb2 hv2 F2
 go_wp2
 go_loopw [20] (fun i wr=>i = .int .i64 0∧Below w.heap.size w wr) (fun _ _=>0)
 case atStart=>exact⟨rfl,B.out⟩
 case round=>
  obtain⟨rfl,hb⟩:=hrel
  replace B:=Avp hb
  clear hb
  go_wp2_with fail
  refine(F3.out wr B.out).mono ?_
  rintro _ w3 ⟨_,rfl,hb3,rfl⟩
  replace B:=Avp (B.out.le hb3)
  have H3:=Avp (H.out.mono B.out)
  have I1:=Avp (H3.out.cell 1 rfl);have I3:=Avp (H3.out.cell 3 rfl)
  clear hb3 F3
  go_wp2_with fail
  refine Am mixed (by kernel_rfl) ?_
  refine Ab.step (Ob.move Aa.free Has.oldIs) ?_
  refine Ab.step (Ob.nilV Aa.free (Has.new 0 0)) ?_
  refine Ab.step (Ob.fieldV Aa.free (Has.new 1 0) (fun w1=>Iq)) ?_
  refine Ab.step (Ob.loadV Aa.free (Has.new 2 0) (fun w1 hb1=>Ew hb1 I3.out)) ?_
  refine Ab.step (Ob.move Aa.free Has.oldIs) ?_
  refine Ab.step (Ob.lenE Aa.free (Has.new 4 0) trivial) ?_
  refine Ab.step (Ob.binV Aa.free (Has.new 3 2) (Has.new 5 0) (fun w1=>Ht (c:=0) (by decide))) ?_
  refine Ab.step (Ob.move Aa.free Has.oldIs) ?_
  refine Ab.step (Ob.nilV Aa.free (Has.new 7 0)) ?_
  refine Ab.step (Ob.fieldV Aa.free (Has.new 8 0) (fun w1=>Kw)) ?_
  refine Ab.step (Ob.loadV Aa.free (Has.new 9 0) (fun w1 hb1=>Ki hb1 I1.out)) ?_
  refine Ab.step (Ob.lenE Aa.free (Has.new 10 0) trivial) ?_
  refine Ab.step (Ob.binV Aa.free (Has.new 6 5) (Has.new 11 0) (fun w1=>Adp false (by decide))) ?_
  simp only[Ab,Ao,List.map,Bq,List.reverse_cons,List.reverse_nil,List.nil_append,List.cons_append]
  intro wE hE
  iterate 13 (rintro _ rfl)
  simp only[Act.put,List.setIfInBounds_toArray,List.set_cons_zero,List.set_cons_succ]
  replace B:=Avp (B.out.le hE)
  clear hE
  go_wp2
  go_loopw [107] (fun i wr=>i = .int .i64 0∧Below w.heap.size w wr) (fun _ _=>0)
  case atStart=>exact⟨rfl,B.out⟩
  case round=>
   obtain⟨rfl,hb⟩:=hrel
   replace B:=Avp hb
   clear hb
   go_wp2
   go_ret
   exact⟨⟨_,rfl⟩,An.ofBelow B.out⟩
theorem Apj {w:World} {O:Nat} {a b:Value} (h:Bx w O [.int .i64 1,a,b]):Calls Tryz.prog 209 #[.pointer (some ⟨O,0,none⟩)] w (Ret w (IsB false)):=by
 have h0:=h.cell 0 rfl
 clear h
 go_enter Tryz.func209,Tryz.ntmps209
 go_wp2
 go_ret
 exact Ay rfl (Below.refl _ _)
theorem Aiv (s:List UInt8) (f:Value) (w:World):Calls Tryz.prog 281 #[.slice none 0 0,Ac s,f] w (Ret w (Is (.tuple #[.int .i64 0,.bool false]))):=by
 go_enter Tryz.func281,Tryz.ntmps281
 go_wp2
 go_loopw [9,10] (fun i j wr=>i = .int .i64 0∧j = .int .i64 0∧Below w.heap.size w wr) (fun _ _ _=>0)
 case atStart=>exact⟨rfl,rfl,Below.refl _ _⟩
 case round=>
  obtain⟨rfl,rfl,hb⟩:=hrel
  have HB2:=Avp hb
  clear hb
  go_wp2
  refine bodyPost_ret (v:=.tuple #[.int .i64 0,.bool false]) (by simp[results,Tryz.results281,go_sem]) rfl ?_
  exact⟨_,rfl,HB2.out,rfl⟩
theorem Atz (s:List UInt8) (w:World):Calls Tryz.prog 211 #[.slice none 0 0,Ac s] w (Ret w (Is (.tuple #[.int .i64 0,.bool false]))):=by
 go_enter Tryz.func211,Tryz.ntmps211
 go_wp2_with fail
 refine(Aiv s _ w).mono ?_
 rintro _ w1 ⟨_,rfl,hb1,rfl⟩
 have B:=Avp hb1
 clear hb1
 go_wp2
 refine bodyPost_ret (v:=.tuple #[.int .i64 0,.bool false]) (by simp[results,Tryz.results211,go_sem]) rfl ?_
 exact⟨_,rfl,B.out,rfl⟩
def Ari (e:EnE):VT:=fun w v=>∃ b:Nat,v = .slice (some ⟨b,0,none⟩) 1 1∧Sl encE w (some ⟨b,0,none⟩) 1 1 [e]
instance (e:EnE):Grows (Ari e):=⟨fun hb ⟨b,e1,h⟩=>⟨b,e1,h.mono hb⟩⟩
def Ahi:VT:=fun _ v=>∃ (A:Option Addr) (n c:Nat) (k:Int),v = .tuple #[.slice A n c,.int .i64 k]
instance:Grows Ahi:=⟨fun _ h=>h⟩
theorem Dz {P:Program} {o:Oper} {a:Act} {w:World} {v:Value} {K:Act->World->Prop} {Q:Exit->Act->World->Prop} (e:(execOp a.eval o).run P w = .ok (.value v) w) (h:K (a.put o.dst v) w):o.wp P a w K Q:=by
 unfold Oper.wp
 rw[e];exact h
def Atj:VT:=fun _ v=>∃ (A:Option Addr) (n c:Nat),v = .slice A n c
instance:Grows Atj:=⟨fun _ h=>h⟩
section
variable {ops:List Oper} {Fs:List VT} {w0:World} {a0:Act} {i:Nat} {d:Option Tmp} {ty:TypeId} {pos:String} {after:Array Edge} {g:Option (Nat×Bool)}
theorem Ob.mkE1 {x:Operand} {e:EnE} (hw:Aa ops Fs w0 a0 i ⟨d,.buildSlice 118 1 #[(0,x)],ty,pos,after,g⟩) (hx:Has ops Fs w0 a0 i ⟨d,.buildSlice 118 1 #[(0,x)],ty,pos,after,g⟩ x (Is (enV e))) (_:True) :
  Ob Tryz.prog ops Fs w0 a0 i ⟨d,.buildSlice 118 1 #[(0,x)],ty,pos,after,g⟩ (Ari e):=
 Ob.any hw fun a w cx=>by
  have h1:a.eval x=enV e:=hx a w cx
  refine⟨.slice (some ⟨w.heap.size,0,none⟩) 1 1,w.alloc (.cells (enC e) 143),?_,by go_grown,w.heap.size,rfl,Sl.new encE w [e] (by simp) (enC e) (by simp[Enc.all,encE]) 143⟩
  generalize a.eval=ρ at h1
  simp[execOp,h1,go_sem]
end
theorem Agk {w:World} {C:Nat}:(Instr.fieldAt 272 (.pointer (some ⟨C,0,none⟩)) 0).run Tryz.prog w = .ok (.pointer (some ⟨C,0,none⟩)) w:=by simp[go_sem]
theorem T6 {w:World} {C:Nat}:(Instr.fieldAt 272 (.pointer (some ⟨C,0,none⟩)) 1).run Tryz.prog w = .ok (.pointer (some ⟨C,1,none⟩)) w:=by simp[go_sem]
theorem Akm {w:World} {k:List UInt8} {c:Ar} {p:CPl}:(Instr.build 143 #[(0,Ac k),(1,Cd p)]).run Tryz.prog w = .ok (enV ⟨k,c,p⟩) w:=by simp[go_sem]
theorem Aau:Enters Tryz.prog 210:=enters_of Tryz.func210 (by kernel_rfl) rfl
theorem Xa {B:Nat} {la lb:List EnS} {w:World} {v:Value} (h:Gh B la lb w v):Ahi w v:=by
 unfold Gh at h
 split at h
 ·obtain⟨u,rfl,A,n,c,rfl,_⟩:=h
  exact⟨A,n,c,0,rfl⟩
 ·exact⟨none,0,0,2,h⟩
theorem Aun {D:Nat->Prop} {w:World} {O:Nat} {key:List UInt8} {p:CPl} {c:Ar} (h:Bx w O [.int .i64 1,.slice none 0 0,.slice none 0 0]) (hp:Bg D w p c) (hs:Bd c) (hn:Bk w) (hk:key.length<=1000000):Calls Tryz.prog 198 #[.pointer (some ⟨O,0,none⟩),Ac key,Cd p] w (Amc O w):=by
 obtain⟨hx,y0,y1,y2⟩:=Nx w p
 have B:=Avp hx
 have H:=Avp (h.mono hx);have P:=Avp (hp.mono hx fun _ x=>x);have NM:=Avp (hn.mono hx);have HS:=Avp hs;have HK:=Avp hk
 have OL:=Avp h.lt
 obtain⟨N,hN⟩:∃ N,N=w.heap.size:=⟨_,rfl⟩
 rw[<-hN] at y0 y1 y2
 have K:=Avp (KAt.mk y0 y1 y2)
 have F1:=Avp (Apj H.out)
 clear h hp hn hs hk hx y0 y1 y2
 go_enter Tryz.func198,Tryz.ntmps198
 go_wp2_with fail
 rw[<-hN]
 clear hN
 refine F1.out.mono ?_
 rintro _ w1 ⟨_,rfl,hb1,rfl⟩
 replace B:=Avp (B.out.le hb1);replace H:=Avp (H.out.mono hb1);replace P:=Avp (P.out.mono hb1 fun _ x=>x);replace NM:=Avp (NM.out.mono hb1);replace K:=Avp (K.out.mono hb1)
 have F2:=Avp (NM.out.key w1 (Below.refl _ _) key HK.out)
 clear hb1 F1
 go_wp2_with fail
 refine F2.out.mono ?_
 rintro _ w2 ⟨_,rfl,hb2,rfl⟩
 replace B:=Avp (B.out.le hb2);replace H:=Avp (H.out.mono hb2);replace P:=Avp (P.out.mono hb2 fun _ x=>x);replace NM:=Avp (NM.out.mono hb2);replace K:=Avp (K.out.mono hb2)
 clear hb2 F2
 cases hk:Dr key with
 | false=>
  go_wp2
  go_ret
  exact⟨⟨_,rfl⟩,An.ofBelow B.out⟩
 | true=>
  have F3:=Avp (Eo P.out NM.out HS.out)
  have k0:=K.out.c0;have k1:=K.out.c1;have k2:=K.out.c2
  go_wp2_with fail
  refine F3.out.mono ?_
  rintro _ w3 ⟨_,rfl,hb3,rfl⟩
  replace B:=Avp (B.out.le hb3);replace H:=Avp (H.out.mono hb3);replace P:=Avp (P.out.mono hb3 fun _ x=>x);replace NM:=Avp (NM.out.mono hb3);replace K:=Avp (K.out.mono hb3)
  clear hb3 F3 k0 k1 k2
  cases hv:Bo c with
  | false=>
   go_wp2
   go_ret
   exact⟨⟨_,rfl⟩,An.ofBelow B.out⟩
  | true=>
   have o2:=H.out.cell 2 rfl
   go_wp2_with fail
   refine(Adh 0 none key w3).mono ?_
   rintro _ w4 ⟨_,rfl,hb4,rfl⟩
   replace B:=Avp (B.out.le hb4);replace H:=Avp (H.out.mono hb4);replace P:=Avp (P.out.mono hb4 fun _ x=>x);replace NM:=Avp (NM.out.mono hb4);replace K:=Avp (K.out.mono hb4)
   clear hb4 o2
   have o1:=H.out.cell 1 rfl
   go_wp2_with fail
   refine(Atz key w4).mono ?_
   rintro _ w5 ⟨_,rfl,hb5,rfl⟩
   replace B:=Avp (B.out.le hb5);replace H:=Avp (H.out.mono hb5);replace P:=Avp (P.out.mono hb5 fun _ x=>x);replace NM:=Avp (NM.out.mono hb5);replace K:=Avp (K.out.mono hb5)
   have O0:=Avp (H.out.cell 0 rfl);have O1:=Avp (H.out.cell 1 rfl)
   clear hb5 o1
   go_wp2_with fail
   refine Am mixed (by kernel_rfl) ?_
   refine Ab.step (Ob.move Aa.free Has.oldIs) ?_
   refine Ab.step (Ob.not Aa.free (Has.new 0 0)) ?_
   refine Ab.step (Ob.move Aa.free (Has.new 1 0)) ?_
   refine Ab.step (Ob.move (Aa.on 2 0) Has.oldIs) ?_
   refine Ab.step (Ob.nilV (Aa.on 2 1) (Has.new 3 0)) ?_
   refine Ab.step (Ob.fieldV (Aa.on 2 2) (Has.new 4 0) (fun w1=>T6)) ?_
   refine Ab.step (Ob.loadV (Aa.on 2 3) (Has.new 5 0) (fun w1 hb1=>Ki hb1 O1.out)) ?_
   refine Ab.step (Ob.lenE (Aa.on 2 4) (Has.new 6 0) trivial) ?_
   refine Ab.step (Ob.move (Aa.on 2 5) Has.oldIs) ?_
   refine Ab.step (Ob.nilV (Aa.on 2 6) (Has.new 8 0)) ?_
   refine Ab.step (Ob.fieldV (Aa.on 2 7) (Has.new 9 0) (fun w1=>Agk)) ?_
   refine Ab.step (Ob.loadV (Aa.on 2 8) (Has.new 10 0) (fun w1 hb1=>Ew hb1 O0.out)) ?_
   refine Ab.step (Ob.binV (Aa.on 2 9) (Has.new 7 4) (Has.new 11 0) (fun w1=>Gc false (by decide))) ?_
   refine Ab.step (Ob.pickT Aa.free (Has.new 2 10) (Has.new 12 0)) ?_
   simp only[Ab,Ao,List.map,Bq,List.reverse_cons,List.reverse_nil,List.nil_append,List.cons_append]
   intro wE hE
   iterate 14 (rintro _ rfl)
   simp only[Act.put,List.setIfInBounds_toArray,List.set_cons_zero,List.set_cons_succ]
   replace B:=Avp (B.out.le hE);replace H:=Avp (H.out.mono hE);replace P:=Avp (P.out.mono hE fun _ x=>x);replace NM:=Avp (NM.out.mono hE);replace K:=Avp (K.out.mono hE)
   replace O1:=Avp (H.out.cell 1 rfl)
   clear hE O0
   have KK:=Avp K.out
   have MG:=Avp (fun(w6:World) (u v:Value) (hb6:Below wE.heap.size wE w6) (hu:Is (.slice none 0 0) w6 u) (hv:Ari ⟨key,c,p⟩ w6 v)=>show Calls Tryz.prog 210 #[u,v] w6 (Ret w6 Ahi) by
    cases hu
    obtain⟨b,rfl,hs6⟩:=hv
    exact(Ali (D:=fun _=>True) (la:=[(key,c)]) ⟨[⟨key,c,p⟩],rfl,hs6,fun _ _=>trivial,fun x hx=>by
     rw[List.mem_singleton.1 hx]
     exact⟨((P.out.mono hb6 fun _ x=>x).if_).dom fun _ _=>trivial,⟨HK.out,HS.out⟩⟩⟩ (NM.out.mono hb6) (by simp)).mono fun e w' ⟨v,h1,h2,h3⟩=>⟨v,h1,h2,Xa h3⟩)
   go_wp2_with fail
   refine U8 9 mixed (by kernel_rfl) (by kernel_rfl) ?_
   refine Dv.step (Ob.move Aa.free Has.oldIs) ?_
   refine Dv.step (Ob.nilV Aa.free (Has.new 0 0)) ?_
   refine Dv.step (Ob.fieldV Aa.free (Has.new 1 0) (fun w1=>T6)) ?_
   refine Dv.step (Ob.loadV Aa.free (Has.new 2 0) (fun w1 hb1=>Ki hb1 O1.out)) ?_
   refine Dv.step (Ob.move Aa.free Has.oldIs) ?_
   refine Dv.step (Ob.loadV Aa.free Has.oldIs (fun w1 hb1=>KK.out.load hb1)) ?_
   refine Dv.step ((Ob.build2 (F:=Is (enV ⟨key,c,p⟩))) Aa.free (Has.new 4 1) (Has.new 5 0) (fun w1 u v hb1 hu hv=>by cases hu;cases hv;exact⟨_,Akm,rfl⟩)) ?_
   refine Dv.step ((Ob.mkE1 (e:=⟨key,c,p⟩)) Aa.free (Has.new 6 0) trivial) ?_
   refine Dv.step (Ob.call2 Aa.free Aau (Has.new 3 4) (Has.new 7 0) (MG.out)) ?_
   simp only[Dv,Ao,List.map,Bq,List.reverse_cons,List.reverse_nil,List.nil_append,List.cons_append,List.take_succ_cons,List.take_zero]
   intro wE hE
   iterate 7 (rintro _ rfl)
   rintro _ _h7
   rintro _ ⟨A9,n9,c9,k9,rfl⟩
   simp only[Act.put,List.setIfInBounds_toArray,List.set_cons_zero,List.set_cons_succ]
   replace B:=Avp (B.out.le hE);replace H:=Avp (H.out.mono hE)
   have o1:=H.out.cell 1 rfl;have f1:=H.out.fr 1 (by simp)
   clear hE _h7 KK MG
   refine Ap (i:=9) rfl rfl (by kernel_rfl) (fun _ _ _ h=>h) (v:=.tuple #[.slice A9 n9 c9,.int .i64 k9]) (fun w=>by simp[execOp,Act.eval,go_sem]) ?_
   refine Ap (i:=10) rfl rfl (by kernel_rfl) (fun _ _ _ h=>h) (v:=.slice A9 n9 c9) (fun w=>by simp[execOp,Act.eval,Act.put,go_sem]) ?_
   refine Ap (i:=11) rfl rfl (by kernel_rfl) (fun _ _ _ h=>h) (v:=.int .i64 k9) (fun w=>by simp[execOp,Act.eval,Act.put,go_sem]) ?_
   refine Ap (i:=12) rfl rfl (by kernel_rfl) (fun _ _ _ h=>h) (v:=.slice A9 n9 c9) (fun w=>by simp[execOp,Act.eval,Act.put,go_sem]) ?_
   refine Cu (i:=13) (by kernel_rfl) rfl rfl ?_
   simp only[Act.put,List.setIfInBounds_toArray,List.set_cons_zero,List.set_cons_succ]
   refine Dz (v:=.int .i64 k9) (by simp[execOp,Act.eval,go_sem]) ?_
   change wpAny _ _ _ _ _ _ (Act.put _ (some 12) _) _
   simp only[Act.put,List.setIfInBounds_toArray,List.set_cons_zero,List.set_cons_succ]
   refine⟨by kernel_rfl,?_⟩
   go_wp2
   ·go_ret
    exact⟨⟨_,rfl⟩,An.ofBelow B.out⟩
   ·go_ret
    exact⟨⟨_,rfl⟩,(An.ofBelow B.out:An O none w _).setAny (o:=1) _⟩
end Go.Proofs.YthnbhjpahlceeaaGreatDoor
namespace Go.Proofs.YthnbhjpahlceeaaGreatDoor
open Go.RowKit Go.WideShapes
def At0 (T M:Nat) (w:World) (e:Ending) (w':World):Prop:=(∃ i k:Int,e = .returned (.tuple #[.int .i64 i,.int .i64 k]))∧∃ wm,An T none w wm∧An M none wm w'
theorem Aec {w:World} {M:Nat} {s:List UInt8} {v:Value} (h:w.heap[M]?=some (.map #[] 0)) (hs:s.length<=1000000):∃ w',(Instr.mapUpdate 265 (.map (some M)) (Ac s) v).run Tryz.prog w = .ok () w'∧An M none w w':=by
 have K:=Maps.string_keyed (P:=Tryz.prog) (k:=9) Tryz.underlying9
 refine⟨{ w with heap:=w.heap.setIfInBounds M (.map #[⟨Ac s,v,0⟩] 1) },?_,⟨rfl,rfl,rfl,by simp,fun k _ hk _=>Array.getElem?_setIfInBounds_ne (fun e=>hk e.symm)⟩⟩
 rcases K.find w (Vr hs) [] (by simp) with⟨f1,_⟩ | ⟨j,e0,_,f2,_⟩
 ·simp[Instr.mapUpdate,run_underlying Tryz.underlying265,MapKept.run_getObj_map h,K.check w _ (Vr hs),f1,MapKept.run_setObj_map _ h,Result.andThen]
 ·simp at f2
theorem Xe {P:Program} {o:Oper} {a:Act} {w w':World} {K:Act->World->Prop} {Q:Exit->Act->World->Prop} (e:(execOp a.eval o).run P w = .ok .skip w') (h:K (a.put o.dst undef) w'):o.wp P a w K Q:=by
 unfold Oper.wp
 rw[e];exact h
def Asa:VT:=fun _ v=>∃ p:CPl,v=Cd p
instance:Grows Asa:=⟨fun _ h=>h⟩
theorem Aa3:Enters Tryz.prog 244:=enters_of Tryz.func244 (by kernel_rfl) rfl
def Atx:VT:=fun _ v=>∃ p:CPl,v=Ue 1 p
instance:Grows Atx:=⟨fun _ h=>h⟩
theorem Aqq {D:Nat->Prop} {w:World} {p:CPl} {c:Ar} (h:Bg D w p c) (hs:Bd c):Calls Tryz.prog 244 #[Cd p] w (Ret w Asa):=(Ada h hs).mono fun e w' ⟨v,h1,h2,p,h3,_⟩=>⟨v,h1,h2,p,h3⟩
theorem Agf {w:World} {C:Nat}:(Instr.fieldAt 211 (.pointer (some ⟨C,0,none⟩)) 0).run Tryz.prog w = .ok (.pointer (some ⟨C,0,none⟩)) w:=by simp[go_sem]
theorem Aei {w:World} {C:Nat}:(Instr.fieldAt 264 (.pointer (some ⟨C,0,none⟩)) 0).run Tryz.prog w = .ok (.pointer (some ⟨C,0,none⟩)) w:=by simp[go_sem]
theorem Ai0 {w:World} {n:Int} {p:CPl}:(Instr.build 211 #[(0,.int .i64 n),(1,Cd p)]).run Tryz.prog w = .ok (Ue n p) w:=by simp[go_sem]
theorem Alw {w0 w:World} {S k M:Nat} (hb:Below w0.heap.size w0 w) (h:w0.cell? ⟨S,k,none⟩=some (.map (some M))):(Instr.loadAt 265 (.pointer (some ⟨S,k,none⟩))).run Tryz.prog w = .ok (.map (some M)) w:=by
 have c1:=Ad hb h
 simp[go_sem,c1]
theorem Aka {w0 w:World} {S k n c:Nat} {A:Option Addr} (hb:Below w0.heap.size w0 w) (h:w0.cell? ⟨S,k,none⟩=some (.slice A n c)):(Instr.loadAt 262 (.pointer (some ⟨S,k,none⟩))).run Tryz.prog w = .ok (.slice A n c) w:=by
 have c1:=Ad hb h
 simp[go_sem,c1]
theorem Aj4 {w0 w:World} {J:Nat} {n:Int} {p:CPl} (hb:Below w0.heap.size w0 w) (h:Bx w0 J [.int .i64 n,.slice p.A p.n p.ca,.slice p.B p.m p.cb,.slice p.C p.k p.cc]):(Instr.loadAt 211 (.pointer (some ⟨J,0,none⟩))).run Tryz.prog w = .ok (Ue n p) w:=by
 have c0:=Ad hb (h.cell 0 rfl);have c1:=Ad hb (h.cell 1 rfl);have c2:=Ad hb (h.cell 2 rfl);have c3:=Ad hb (h.cell 3 rfl)
 simp[go_sem,c0,c1,c2,c3]
theorem Avm {D:Nat->Prop} {w:World} {T S M:Nat} {p:CPl} {c:Ar} (s:List UInt8) (h:TFr w T S M) (hf:w.frozen? ⟨T,1,none⟩=false) (g:Cr w) (hs:s.length<=1000000) (hp:Ck D w p c) (hd:∀ b,D b->b≠T) (hk:Bd c):Calls Tryz.prog 197 #[.pointer (some ⟨T,0,none⟩),Ac s,Cd p] w (At0 T M w):=by
 obtain⟨hx,y0,y1,y2⟩:=Nx w p
 have B:=Avp hx
 have H:=Avp (h.mono hx);have P:=Avp (hp.below hx);have G:=Avp (g.mono hx);have HS:=Avp hs;have HK:=Avp hk;have HD:=Avp hd
 have NT:=Avp (show w.heap.size≠T by exact Nat.ne_of_gt (show T<w.heap.size from World.block_lt_of_cell? w _ h.t0))
 have TL:=Avp (show T<w.heap.size from World.block_lt_of_cell? w _ h.t0)
 have FR:=Avp hf
 have ML:=Avp (Array.getElem?_eq_some_iff.1 h.m).1
 obtain⟨N,hN⟩:∃ N,N=w.heap.size:=⟨_,rfl⟩
 rw[<-hN] at y0 y1 y2 NT
 have K:=Avp (KAt.mk y0 y1 y2)
 have F1:=Avp (Aci s H.out G.out HS.out)
 have TM:=Avp (show T≠M by
  intro e
  have h1:=h.t0
  have h2:=h.m
  rw[e] at h1
  simp[World.cell?,h2] at h1)
 have ST:=Avp (show S≠T by
  intro e
  have h1:=h.t0
  have h2:=h.s0
  rw[e] at h2
  rw[h1] at h2
  cases h2)
 have SM:=Avp (show S≠M by
  intro e
  have h1:=h.s0
  have h2:=h.m
  rw[e] at h1
  simp[World.cell?,h2] at h1)
 clear h hp g hs hk hx y0 y1 y2 hf hd
 go_enter Tryz.func197,Tryz.ntmps197
 go_wp2_with fail
 rw[<-hN]
 clear hN
 refine F1.out.mono ?_
 rintro _ w1 ⟨_,rfl,hb1,rfl⟩
 replace B:=Avp (B.out.le hb1);replace H:=Avp (H.out.mono hb1);replace P:=Avp (P.out.below hb1);replace G:=Avp (G.out.mono hb1);replace K:=Avp (K.out.mono hb1)
 clear hb1 F1
 cases hk:Dr s with
 | false=>
  simp only[Bool.false_eq_true,if_false]
  go_wp2
  refine bodyPost_ret (v:=.tuple #[.int .i64 0,.int .i64 2]) (by simp[results,Tryz.results197,go_sem]) rfl ?_
  exact⟨⟨_,_,rfl⟩,w,An.refl_ _ _ _,An.ofBelow B.out⟩
 | true=>
  simp only[if_true]
  have F3:=Avp (Eo P.out.at_ G.out.nm.ok HK.out)
  have k0:=K.out.c0;have k1:=K.out.c1;have k2:=K.out.c2
  go_wp2_with fail
  refine F3.out.mono ?_
  rintro _ w3 ⟨_,rfl,hb3,rfl⟩
  replace B:=Avp (B.out.le hb3);replace H:=Avp (H.out.mono hb3);replace P:=Avp (P.out.below hb3);replace G:=Avp (G.out.mono hb3);replace K:=Avp (K.out.mono hb3)
  clear hb3 F3 k0 k1 k2
  cases hv:Bo c with
  | false=>
   go_wp2
   refine bodyPost_ret (v:=.tuple #[.int .i64 0,.int .i64 2]) (by simp[results,Tryz.results197,go_sem]) rfl ?_
   exact⟨⟨_,_,rfl⟩,w,An.refl_ _ _ _,An.ofBelow B.out⟩
  | true=>
   have t0:=H.out.t0;have t1:=H.out.t1;have s0:=H.out.s0;have m0:=H.out.m
   have hl:=Ro (w:=w3) (s:=s) true m0 HS.out
   simp only[if_true] at hl
   have ft:=(B.out.frozen (p:=⟨T,1,none⟩) TL.out).trans FR.out
   have tl:=Nat.lt_of_lt_of_le TL.out B.out.size
   have ml:=Nat.lt_of_lt_of_le ML.out B.out.size
   have hw0:An T none w3 (w3.setCell ⟨T,1,none⟩ (.int .i64 1)):=(An.ofBelow (Below.refl _ _)).setAny (o:=1) _
   have WT:=Avp (show An T none w (w3.setCell ⟨T,1,none⟩ (.int .i64 1)) from(An.ofBelow B.out).setAny (o:=1) _)
   have hb4:Below (w3.setCell ⟨T,1,none⟩ (.int .i64 1)).heap.size (w3.setCell ⟨T,1,none⟩ (.int .i64 1)) ((w3.setCell ⟨T,1,none⟩ (.int .i64 1)).alloc (.cells Ir 211)):=by go_grown
   have XJ:=Avp (Bx.new (w3.setCell ⟨T,1,none⟩ (.int .i64 1)) Ir 211)
   rw[show(w3.setCell ⟨T,1,none⟩ (.int .i64 1)).heap.size=w3.heap.size by simp] at XJ
   have K4:=Avp ((show KAt (w3.setCell ⟨T,1,none⟩ (.int .i64 1)) N p from⟨hw0.cell K.out.c0 NT.out (by simp),hw0.cell K.out.c1 NT.out (by simp),hw0.cell K.out.c2 NT.out (by simp)⟩).mono hb4)
   have P4:=Avp ((P.out.wrote hw0 fun b hb=>⟨HD.out b hb,by simp⟩).at_.mono hb4 fun _ x=>x)
   have T4:=Avp (Ad hb4 (show(w3.setCell ⟨T,1,none⟩ (.int .i64 1)).cell? ⟨T,0,none⟩=some (.slice (some ⟨S,0,none⟩) 1 1) from(World.cell?_setCells_out T [.int .i64 1] 1 w3 ⟨T,0,none⟩ (fun _ _=>.inl (by simp))).trans t0))
   have S4:=Avp (Ad hb4 (hw0.cell s0 ST.out (by simp)))
   have M4:=Avp ((hb4.block M (by rw[show(w3.setCell ⟨T,1,none⟩ (.int .i64 1)).heap.size=w3.heap.size by simp];exact ml)).trans ((hw0.block M ml (fun e=>TM.out e.symm) (by simp)).trans m0))
   have W4:=Avp (WT.out.le (Ak hb4 WT.out.size))
   obtain⟨J,hJ⟩:∃ J,J=w3.heap.size:=⟨_,rfl⟩
   have JS:=Avp (show w.heap.size<=J by rw[hJ];exact B.out.size)
   have JM:=Avp (show J≠M by rw[hJ];omega)
   have JT:=Avp (show J≠T by rw[hJ];omega)
   have JSS:=Avp (show J≠S by rw[hJ];exact Nat.ne_of_gt (show S<w3.heap.size from World.block_lt_of_cell? w3 _ s0))
   rw[<-hJ] at XJ
   clear hw0 hb4 K P B H
   go_wp2_with fail
   rw[<-hJ]
   clear hJ ml tl ft hl m0 s0 t1 t0 FR ML TL
   generalize (w3.setCell ⟨T,1,none⟩ (.int .i64 1)).alloc (.cells Ir 211)=w4 at *
   refine Bu 6 mixed (by kernel_rfl) (by kernel_rfl) ?_
   refine Al.step (Ob.fieldV Aa.free Has.oldIs (fun w1=>Agf)) ?_
   refine Al.step (Ob.loadV Aa.free (Has.new 0 0) (fun w1 hb1=>Ew hb1 (XJ.out.cell 0 rfl))) ?_
   refine Al.step (Ob.binV Aa.free (Has.new 1 0) (Has.cst _) (fun w1=>Ht (show IntKind.i64.wrap (0+1)=1 by decide))) ?_
   refine Al.step (Ob.loadV Aa.free Has.oldIs (fun w1 hb1=>K4.out.load hb1)) ?_
   refine Al.step (Ob.call1V Aa.free Aa3 (Has.new 3 0) (fun w1 hb1=>Aqq (P4.out.mono hb1 fun _ x=>x) HK.out)) ?_
   refine Al.step ((Ob.build2 (F:=Atx)) Aa.free (Has.new 2 2) (Has.new 4 0) (fun w1 u v hb1 hu hv=>by cases hu;obtain⟨p5,rfl⟩:=hv;exact⟨_,Ai0,p5,rfl⟩)) ?_
   simp only[Al,Ao,List.map,Bq,List.reverse_cons,List.reverse_nil,List.nil_append,List.cons_append,List.take_succ_cons,List.take_zero,List.drop_succ_cons,List.drop_zero]
   intro wE hE
   iterate 4 (rintro _ rfl)
   rintro _ _h4
   rintro _ ⟨p5,rfl⟩
   simp only[Act.put,List.setIfInBounds_toArray,List.set_cons_zero,List.set_cons_succ]
   have XE:=Avp (XJ.out.mono hE)
   have TE:=Avp (Ad hE T4.out);have SE:=Avp (Ad hE S4.out)
   have ME:=Avp ((hE.block M (Array.getElem?_eq_some_iff.1 M4.out).1).trans M4.out)
   have WE:=Avp (W4.out.le (Ak hE W4.out.size))
   clear hE _h4 XJ T4 S4 M4 W4 K4 P4
   go_wp2_with ((with_reducible refine Ai (J) ?_ ?_);(next=>rfl))
   unfold Az
   refine Af (J:=J) rfl rfl rfl rfl rfl XE.out (show(Tryz.prog.info? 211).map (·.size)=some 4 by kernel_rfl) rfl (by simp[Value.oneCell']) ?_
   intro w9 hx9 hu9
   have X9:=Avp hx9;have U9:=Avp hu9
   clear hx9 hu9
   have hw:=U9.out.wrote
   have T9:=Avp (hw.cell TE.out (fun e=>JT.out e.symm) (by simp));have S9:=Avp (hw.cell SE.out (fun e=>JSS.out e.symm) (by simp))
   have M9:=Avp ((U9.out.block M (fun e=>JM.out e.symm)).trans ME.out)
   have W9:=Avp (WE.out.le (U9.out.below JS.out))
   have IR:=Avp (fun w5=>show(Instr.indexAt 262 (.slice (some ⟨S,0,none⟩) 1 1) (.int .i64 0)).run Tryz.prog w5 = .ok (.pointer (some ⟨S,0,none⟩)) w5 by simp[go_sem])
   clear hw WE ME TE SE XE U9
   go_wp2_with fail
   refine Bu 9 mixed (by kernel_rfl) (by kernel_rfl) ?_
   refine Al.step (Ob.move Aa.free Has.oldIs) ?_
   refine Al.step (Ob.nilV Aa.free (Has.new 0 0)) ?_
   refine Al.step (Ob.fieldV Aa.free (Has.new 1 0) (fun w1=>Aei)) ?_
   refine Al.step (Ob.loadV Aa.free (Has.new 2 0) (fun w1 hb1=>Aka hb1 T9.out)) ?_
   refine Al.step (Ob.move Aa.free Has.oldIs) ?_
   refine Al.step (Ob.indexV Aa.free (Has.new 3 1) (Has.new 4 0) (fun w1=>IR.out w1)) ?_
   refine Al.step (Ob.loadV Aa.free (Has.new 5 0) (fun w1 hb1=>Alw hb1 S9.out)) ?_
   refine Al.step (Ob.move Aa.free Has.oldIs) ?_
   refine Al.step (Ob.loadV Aa.free Has.oldIs (fun w1 hb1=>Aj4 (n:=1) (p:=p5) hb1 X9.out)) ?_
   simp only[Al,Ao,List.map,Bq,List.reverse_cons,List.reverse_nil,List.nil_append,List.cons_append,List.take_succ_cons,List.take_zero,List.drop_succ_cons,List.drop_zero]
   intro wE hE
   iterate 9 (rintro _ rfl)
   simp only[Act.put,List.setIfInBounds_toArray,List.set_cons_zero,List.set_cons_succ]
   have XF:=Avp (X9.out.mono hE)
   obtain⟨wF,hrun,hwF⟩:=Aec (v:=Ue 1 p5) ((hE.block M (Array.getElem?_eq_some_iff.1 M9.out).1).trans M9.out) HS.out
   have XG:=Avp (XF.out.wrote hwF JM.out (by simp))
   have WF:=Avp (W9.out.le (Ak hE W9.out.size))
   have RUN:=Avp hrun;have HWF:=Avp hwF
   clear hE T9 S9 M9 W9 X9 XF IR hrun hwF
   refine wpList_plain rfl fun _ hK=>Xe (w':=wF) (by simp only[execOp,Act.eval];simp[Act.eval,RUN.out]) (hK _ _ ?_)
   simp only[Act.put]
   have x0:=XG.out.cell 0 rfl
   go_wp2
   refine bodyPost_ret (v:=.tuple #[.int .i64 1,.int .i64 0]) (by simp[results,Tryz.results197,go_sem]) rfl ?_
   exact⟨⟨_,_,rfl⟩,wE,WF.out,HWF.out⟩
end Go.Proofs.YthnbhjpahlceeaaGreatDoor
namespace Go.Proofs.YthnbhjpahlceeaaGreatDoor
open Go.RowKit
theorem Asl (u v:Value) (w:World):(Instr.extract (.tuple #[u,v]) 0).run Tryz.prog w = .ok u w:=by simp[go_sem]
theorem Asc (u v:Value) (w:World):(Instr.extract (.tuple #[u,v]) 1).run Tryz.prog w = .ok v w:=by simp[go_sem]
theorem Aks {P:Program} {w:World} {ty:TypeId} {J:Nat} {old:List Value} {cells:Array Value} (hb:Bx w J old) (hi:(P.info? ty).map (·.size)=some cells.size) (hl:old.length=cells.size) (h1:cells.all (·.oneCell')=true) :
  ∃ w',(Instr.storeAt ty (.pointer (some ⟨J,0,none⟩)) (.agg cells)).run P w = .ok () w'∧Bx w' J cells.toList∧Upd J w w':=by
 have hth:w.there J 0 cells.size:=by rw[<-hl];exact hb.th
 have e:=run_storeAt_mid (P:=P) w J 0 ty cells hth hi h1
 have u:=G7 J cells.toList 0 w
 refine⟨_,e,⟨?_,?_,?_⟩,u⟩
 ·exact World.rangeAt_setCells_same w J 0 cells.toList (by simpa using hth)
 ·exact World.there_setCells (by simpa using hth) _ _ _
 ·rw[u.size];exact hb.lt
def Ant (c:Ar):VT:=fun w v=>∃ p:CPl,v=Cd p∧Bg (fun _=>True) w p c
instance (c:Ar):Grows (Ant c):=⟨fun hb ⟨p,e,h⟩=>⟨p,e,h.mono hb fun _ x=>x⟩⟩
def At6 (B:Nat) (c:Ar):VT:=fun w v=>∃ (u:Value) (k:Int),v = .tuple #[u,.int .i64 k]∧Ed B c w u
instance (B:Nat) (c:Ar):Grows (At6 B c):=⟨fun hb ⟨u,k,e,h⟩=>⟨u,k,e,Grows.up hb h⟩⟩
def Sls (w:World) (J:Nat):Prop:=∀ o x,w.cell? ⟨J,o,none⟩=some x->∃ A n c,x = .slice A n c
theorem Sls.mono {w w':World} {J:Nat} (h:Sls w J) (hb:Below w.heap.size w w') (hJ:J<w.heap.size):Sls w' J:=fun o x e=>h o x (by rw[<-hb.cell (p:=⟨J,o,none⟩) hJ];exact e)
theorem Sls.new (w:World):Sls (w.alloc (.cells cartZ 141)) w.heap.size:=fun o x e=>by
 have h:=cell_of_row (w:=w.alloc (.cells cartZ 141)) w.heap.size o cartZ _ (0,0) (heap_alloc_new w _)
 rw[h] at e
 have h3:o<3:=by
  have:=(Array.getElem?_eq_some_iff.1 e).1
  simpa [cartZ] using this
 match o,h3 with
 | 0,_=>simp[cartZ] at e;exact⟨_,_,_,e.symm⟩
 | 1,_=>simp[cartZ] at e;exact⟨_,_,_,e.symm⟩
 | 2,_=>simp[cartZ] at e;exact⟨_,_,_,e.symm⟩
theorem Ck.apart {D:Nat->Prop} {w:World} {J:Nat} {p:CPl} {c:Ar} (h:Ck D w p c) (hs:Sls w J):Ck (fun b=>D b∧b≠J) w p c:=by
 obtain⟨es,e1,e2,e3,e4⟩:=h.its
 refine⟨h.vec,h.cloud,⟨es,e1,e2,fun hn a ea=>⟨e3 hn a ea,?_⟩,fun x hx=>⟨(e4 x hx).1,fun hn a ea=>⟨(e4 x hx).2.1 hn a ea,?_⟩,(e4 x hx).2.2⟩⟩,fun hn a ea=>⟨h.iA hn a ea,?_⟩,fun hn a ea=>⟨h.iB hn a ea,?_⟩⟩
 ·obtain⟨d,t,rfl⟩:=List.exists_cons_of_ne_nil hn
  obtain⟨b,o,e,_,h1⟩:=e2.cell 0 d rfl
  rw[ea] at e;cases e
  rintro rfl
  obtain⟨_,_,_,h2⟩:=hs _ _ (h1 0 _ rfl)
  cases h2
 ·obtain⟨d,t,hdt⟩:=List.exists_cons_of_ne_nil hn
  obtain⟨b,o,e,_,h1⟩:=(e4 x hx).1.cell 0 d (by rw[hdt];rfl)
  rw[ea] at e;cases e
  rintro rfl
  obtain⟨_,_,_,h2⟩:=hs _ _ (h1 0 _ rfl)
  cases h2
 ·obtain⟨d,t,hdt⟩:=List.exists_cons_of_ne_nil hn
  obtain⟨b,o,e,_,h1,_⟩:=h.vec.cell 0 d (by rw[hdt];rfl)
  rw[ea] at e;cases e
  rintro rfl
  obtain⟨_,_,_,h2⟩:=hs _ _ h1
  cases h2
 ·obtain⟨d,t,hdt⟩:=List.exists_cons_of_ne_nil hn
  obtain⟨b,o,e,_,h1,_⟩:=h.cloud.cell 0 d (by rw[hdt];rfl)
  rw[ea] at e;cases e
  rintro rfl
  obtain⟨_,_,_,h2⟩:=hs _ _ h1
  cases h2
def Apy (B:Nat):VT:=fun w v=>∃ J,v = .pointer (some ⟨J,0,none⟩)∧B<=J∧Bx w J cartZ.toList∧Sls w J
instance (B:Nat):Grows (Apy B):=⟨fun hb ⟨J,e,h1,h2,h3⟩=>⟨J,e,h1,h2.mono hb,h3.mono hb h2.lt⟩⟩
section
variable {P:Program} {ops:List Oper} {Fs:List VT} {w0:World} {a0:Act} {i:Nat} {d:Option Tmp} {ty:TypeId} {pos:String} {after:Array Edge} {g:Option (Nat×Bool)}
theorem Ob.allocK (hw:Aa ops Fs w0 a0 i ⟨d,.alloc 141,ty,pos,after,g⟩) {B:Nat} (hB:B<=w0.heap.size):Ob Tryz.prog ops Fs w0 a0 i ⟨d,.alloc 141,ty,pos,after,g⟩ (Apy B):=
 Ob.any hw fun a w cx=>by
  refine⟨.pointer (some ⟨w.heap.size,0,none⟩),w.alloc (.cells cartZ 141),?_,by go_grown,w.heap.size,rfl,Nat.le_trans hB cx.le.size,Bx.new w cartZ 141,Sls.new w⟩
  simp[execOp,go_sem]
end
theorem Afl {w:World} {C:Nat}:(Instr.fieldAt 195 (.pointer (some ⟨C,0,none⟩)) 1).run Tryz.prog w = .ok (.pointer (some ⟨C,4,none⟩)) w:=by simp[go_sem]
theorem Af4 {w:World} {C:Nat}:(Instr.fieldAt 195 (.pointer (some ⟨C,0,none⟩)) 4).run Tryz.prog w = .ok (.pointer (some ⟨C,7,none⟩)) w:=by simp[go_sem]
theorem Am5 {w0 w:World} {S k M:Nat} (hb:Below w0.heap.size w0 w) (h:w0.cell? ⟨S,k,none⟩=some (.pointer (some ⟨M,0,none⟩))):(Instr.loadAt 182 (.pointer (some ⟨S,k,none⟩))).run Tryz.prog w = .ok (.pointer (some ⟨M,0,none⟩)) w:=by
 have c1:=Ad hb h
 simp[go_sem,c1]
theorem Alq {w0 w:World} {S k M:Nat} (hb:Below w0.heap.size w0 w) (h:w0.cell? ⟨S,k,none⟩=some (.pointer (some ⟨M,0,none⟩))):(Instr.loadAt 191 (.pointer (some ⟨S,k,none⟩))).run Tryz.prog w = .ok (.pointer (some ⟨M,0,none⟩)) w:=by
 have c1:=Ad hb h
 simp[go_sem,c1]
theorem Zp:Enters Tryz.prog 122:=enters_of Tryz.func122 (by kernel_rfl) rfl
theorem Wy:Enters Tryz.prog 196:=enters_of Tryz.func196 (by kernel_rfl) rfl
theorem Aqh {w:World} {q:NPl} {n:Int} (s:List UInt8) (h:FN w q n) (g:Cr w) (hs:s.length<=1000000):Calls Tryz.prog 122 #[.pointer (some ⟨q.N,0,none⟩),Ac s] w (Ret w (Ant Bj)):=(Hq s h g hs).mono fun _ _ ⟨v,e,hb,p,e2,h2⟩=>⟨v,e,hb,p,e2,h2.at_⟩
theorem Ary {B:Nat} {D:Nat->Prop} {w:World} {v:Value} {p2:CPl} {a b:Ar} (hB:B<=w.heap.size) (hv:Ant a w v) (h2:Bg D w p2 b) (hn:Bk w) (hs:Bd a) (hs2:Bd b):Calls Tryz.prog 196 #[v,Cd p2] w (Ret w (At6 B (Im a b).1)):=by
 obtain⟨p,rfl,h⟩:=hv
 refine(Asz h h2 hn hs hs2).mono ?_
 rintro _ w' ⟨v,e,hb,u,rfl,pu,hu,hc⟩
 exact⟨_,e,hb,u,_,rfl,pu,hu,hc.mono (Below.refl _ _) fun b hb=>Nat.le_trans hB hb⟩
structure Di (q:NPl) (w w':World):Prop where
 os:w'.os=w.os
 tape:w'.tape=w.tape
 output:w'.output=w.output
 size:w.heap.size<=w'.heap.size
 block:∀ k,k<w.heap.size->k≠q.N∧k≠q.T∧k≠q.M∧k≠q.C∧k≠q.I∧k≠q.O->w'.heap[k]?=w.heap[k]?
theorem Di.ofBelow {q:NPl} {w w':World} (h:Below w.heap.size w w'):Di q w w':=⟨h.os,h.tape,h.output,h.size,fun k hk _=>h.block k hk⟩
theorem Di.ofWrote {q:NPl} {w w':World} {b:Nat} (h:An b none w w') (hb:b=q.N∨b=q.T∨b=q.M∨b=q.C∨b=q.I∨b=q.O):Di q w w':=⟨h.os,h.tape,h.output,h.size,fun k hk hn=>h.block k hk (by omega) (by simp)⟩
theorem Di.trans {q:NPl} {w w1 w2:World} (h:Di q w w1) (k:Di q w1 w2):Di q w w2:=⟨k.os.trans h.os,k.tape.trans h.tape,k.output.trans h.output,Nat.le_trans h.size k.size,fun i hi hn=>(k.block i (Nat.lt_of_lt_of_le hi h.size) hn).trans (h.block i hi hn)⟩
theorem Di.upd {q:NPl} {w w1 w2:World} {J:Nat} (h:Di q w w1) (k:Upd J w1 w2) (hJ:w.heap.size<=J):Di q w w2:=⟨k.os.trans h.os,k.tape.trans h.tape,k.output.trans h.output,Nat.le_trans h.size (Nat.le_of_eq k.size.symm),fun i hi hn=>(k.block i (by omega)).trans (h.block i hi hn)⟩
theorem Di.below {q:NPl} {w w':World} {B:Nat} (h:Di q w w') (hB:B<=w.heap.size) (hq:B<=q.N∧B<=q.T∧B<=q.M∧B<=q.O∧B<=q.C∧B<=q.I):Below B w w':=⟨h.os,h.tape,h.output,h.size,fun k hk=>h.block k (by omega) (by omega)⟩
theorem Di.bx {q:NPl} {w w':World} {J:Nat} {cs:List Value} (h:Di q w w') (hb:Bx w J cs) (hn:J≠q.N∧J≠q.T∧J≠q.M∧J≠q.C∧J≠q.I∧J≠q.O):Bx w' J cs:=hb.same (h.block J hb.lt hn) h.size
def ChP (q:NPl) (w:World) (e:Ending) (w':World):Prop:=(∃ v,e = .returned v)∧Di q w w'
theorem Mc {w:World} {M:Nat} {o:Nat} {v:Value} {es:Array MapEntry} {k:Nat} (h:w.heap[M]?=some (.map es k)):w.cell? ⟨M,o,none⟩≠some v:=fun e=>by simp[World.cell?,h] at e
theorem FN.apart {w:World} {q:NPl} {n:Int} (h:FN w q n):q.N≠q.T∧q.N≠q.M∧q.O≠q.T∧q.O≠q.M∧q.C≠q.T∧q.C≠q.M:=by
 have c0:=h.cnt.c0
 refine⟨fun e=>?_,fun e=>?_,fun e=>?_,fun e=>?_,fun e=>?_,fun e=>?_⟩
 ·have h1:=h.k0;rw[e,h.tab.t0] at h1;cases h1
 ·exact Mc h.tab.m (e ▸ h.k0)
 ·have h1:=h.out.cell 0 rfl;rw[e,h.tab.t0] at h1;cases h1
 ·exact Mc h.tab.m (e ▸ h.out.cell 0 rfl)
 ·rw[e,h.tab.t0] at c0;cases c0
 ·exact Mc h.tab.m (e ▸ c0)
theorem Ao2 {B:Nat} {D:Nat->Prop} {w:World} {q:NPl} {n:Int} {key:List UInt8} {p:CPl} {d:Ar} (h:FN w q n) (g:Cr w) (hB:B<=q.T∧B<=q.M∧B<=q.O) (hg:2<B∧1<B) (hp:Ck D w p d) (hd:∀ b,D b->b≠q.T∧b≠q.M) (hs:Bd d) (hj:Bd (Im Bj d).1) (hk:key.length<=1000000) :
  Calls Tryz.prog 125 #[.pointer (some ⟨q.N,0,none⟩),Ac key,Cd p] w (ChP q w):=by
 obtain⟨hx,y0,y1,y2⟩:=Nx w p
 have B1:=Avp hx
 have G0:=Avp g
 have H:=Avp (h.mono hx);have P:=Avp (hp.below hx);have G:=Avp (g.mono hx);have HS:=Avp hs;have HK:=Avp hk;have HD:=Avp hd;have HJ:=Avp hj;have HB:=Avp hB;have HG:=Avp hg
 obtain⟨N,hN⟩:∃ N,N=w.heap.size:=⟨_,rfl⟩
 rw[<-hN] at y0 y1 y2
 have WL:=Avp (show B<=w.heap.size by have:=World.block_lt_of_cell? w _ h.tab.t0;have h2:q.T<w.heap.size:=this;omega)
 have NL:=Avp (show q.T<N∧q.M<N∧q.O<N by rw[hN];exact⟨World.block_lt_of_cell? w _ h.tab.t0,(Array.getElem?_eq_some_iff.1 h.tab.m).1,h.out.lt⟩)
 have K:=Avp (KAt.mk y0 y1 y2)
 clear h hp g hs hk hx y0 y1 y2 hd hj hB hg
 go_enter Tryz.func125,Tryz.ntmps125
 go_wp2_with fail
 rw[<-hN]
 have EN:=Avp hN
 clear hN
 generalize w.alloc (.cells (Aw p) 141)=w1 at *
 refine Vu [0,1,2,3,4,5,6,7,8,9,10] 9 7 rfl (by kernel_rfl) mixed (by kernel_rfl) (by kernel_rfl) (by kernel_rfl) (by decide) (by kernel_rfl) (by kernel_rfl) (fun _ d _ _ _ h=>by cases d <;> exact h) ?_
 refine Dv.step (Ob.move Aa.free Has.oldIs) ?_
 refine Dv.step (Ob.move Aa.free Has.oldIs) ?_
 refine Dv.step (Ob.call2V Aa.free Zp (Has.new 0 1) (Has.new 1 0) (fun w2 hb2=>Aqh key (H.out.mono hb2) (G.out.mono hb2) HK.out)) ?_
 refine Dv.step (Ob.loadV Aa.free Has.oldIs (fun w2 hb2=>K.out.load hb2)) ?_
 refine Dv.step (Ob.call2 Aa.free Wy (Has.new 2 1) (Has.new 3 0) (fun w2 u v hb2 (hu:Ant Bj w2 u) (hv:Is (Cd p) w2 v)=>by cases hv;exact Ary (B:=w1.heap.size) hb2.size hu (P.out.below hb2).at_ (G.out.mono hb2).nm.ok Co HS.out)) ?_
 refine Dv.step (Ob.move Aa.free (Has.new 4 0)) ?_
 refine Dv.step (Ob.extract (F:=Ed w1.heap.size (Im Bj d).1) Aa.free (Has.new 5 0) (fun w2 v hb2 hv=>by obtain⟨u,k,rfl,hu⟩:=hv;exact⟨_,Asl _ _ _,hu⟩)) ?_
 refine Dv.step (Ob.extract (F:=Hv) Aa.free (Has.new 5 1) (fun w2 v hb2 hv=>by obtain⟨u,k,rfl,hu⟩:=hv;exact⟨_,Asc _ _ _,k,rfl⟩)) ?_
 refine Dv.step (Ob.allocK Aa.free (B:=w1.heap.size) (Nat.le_refl _)) ?_
 intro wE hE
 change Bq _ [some 9,some 10,some 11,some 12,some 13,some 8,some 14,some 15,some 6] _ _ _
 simp only[Bq,List.reverse_cons,List.reverse_nil,List.nil_append,List.cons_append]
 iterate 2 (rintro _ rfl)
 rintro _ _h2
 iterate 1 (rintro _ rfl)
 rintro _ _h4
 rintro _ ⟨u5,k5,rfl,_h5⟩
 rintro _ _h6
 rintro _ _h7
 rintro _ _h8
 simp only[Act.put,List.setIfInBounds_toArray,List.set_cons_zero,List.set_cons_succ]
 obtain⟨pu,rfl,hu⟩:=_h6
 obtain⟨k7,rfl⟩:=_h7
 obtain⟨J,rfl,hJ,hbx,hsl⟩:=_h8
 obtain⟨w5,hrun,hx5,hu5⟩:=Aks (P:=Tryz.prog) (ty:=141) (cells:=Aw pu) hbx (by kernel_rfl) rfl (by simp[Value.oneCell',Aw])
 have PU:=Avp (show Ck (fun b=>w1.heap.size<=b) w5 pu (Im Bj d).1 from((hu.if_.apart hsl).wrote hu5.wrote fun b hb=>⟨hb.2,by simp⟩).dom fun b hb=>hb.1.1)
 have X5:=Avp hx5
 have B5:=Avp (Ae (B1.out.le hE) (hu5.below (by have:=B1.out.size;omega)))
 refine Cu (i:=9) (by kernel_rfl) rfl rfl ?_
 refine On (p:=.pointer (some ⟨J,0,none⟩)) (v:=Cd pu) (w':=w5) rfl rfl rfl rfl hrun ?_
 refine Cu (i:=10) (by kernel_rfl) rfl rfl ?_
 refine Uw (d:=7) (v:=.int .i64 k7) rfl rfl rfl ?_
 simp only[Act.put,List.setIfInBounds_toArray,List.set_cons_zero,List.set_cons_succ]
 refine⟨by kernel_rfl,?_⟩
 have B15:=Ae hE (hu5.below hJ)
 replace H:=Avp (H.out.mono B15);replace G:=Avp (G.out.mono B15);replace K:=Avp (K.out.mono B15);replace P:=Avp (P.out.below B15)
 have NL0:=NL
 replace NL:=Avp (show q.T<w1.heap.size∧q.M<w1.heap.size∧q.O<w1.heap.size by have h1:=NL.out;have h2:=B1.out.size;have h3:=EN.out;omega)
 replace PU:=Avp (PU.out.dom (D':=fun b=>b≠q.T) fun b hb=>by have:=NL.out;omega)
 have kT:=Avp H.out.kT
 have KX:=Avp (show KAt w5 J pu from⟨X5.out.cell 0 rfl,X5.out.cell 1 rfl,X5.out.cell 2 rfl⟩)
 clear hE hu hbx hsl hrun hx5 hu5 B15 _h2 _h4 _h5 X5 B1 hJ
 go_wp2_with fail
 refine Bu 6 mixed (by kernel_rfl) (by kernel_rfl) ?_
 refine Al.step (Ob.move Aa.free Has.oldIs) ?_
 refine Al.step (Ob.nilV Aa.free (Has.new 0 0)) ?_
 refine Al.step (Ob.fieldV Aa.free (Has.new 1 0) (fun w2=>Afl)) ?_
 refine Al.step (Ob.loadV Aa.free (Has.new 2 0) (fun w2 hb2=>Am5 hb2 kT.out)) ?_
 refine Al.step (Ob.move Aa.free Has.oldIs) ?_
 refine Al.step (Ob.loadV Aa.free Has.oldIs (fun w2 hb2=>KX.out.load hb2)) ?_
 simp only[Al,Ao,List.map,Bq,List.reverse_cons,List.reverse_nil,List.nil_append,List.cons_append,List.take_succ_cons,List.take_zero,List.drop_succ_cons,List.drop_zero]
 intro wE hE
 iterate 6 (rintro _ rfl)
 simp only[Act.put,List.setIfInBounds_toArray,List.set_cons_zero,List.set_cons_succ]
 replace H:=Avp (H.out.mono hE);replace G:=Avp (G.out.mono hE);replace K:=Avp (K.out.mono hE);replace P:=Avp (P.out.below hE);replace PU:=Avp (PU.out.below hE);replace B5:=Avp (B5.out.le hE)
 have F2:=Avp (Avm key H.out.tab H.out.frT G.out HK.out PU.out (fun _ x=>x) HJ.out)
 clear hE kT KX PU
 go_wp2_with fail
 refine F2.out.mono ?_
 rintro _ w6 ⟨⟨i6,k6,rfl⟩,w7,hw7,hw6⟩
 have AP:=H.out.apart
 have hlt:=NL.out
 have bE:=B5.out
 have B6:=Avp (Ae (Ak B5.out (by have:=WL.out;omega)) (Ae (hw7.below (B:=B) (by have:=WL.out;have:=B5.out.size;omega) HB.out.1 (by simp)) (hw6.below (by have:=WL.out;have:=B5.out.size;have:=hw7.size;omega) HB.out.2.1 (by simp))))
 have K6:=Avp ((Di.ofBelow (q:=q) B5.out).trans ((Di.ofWrote hw7 (.inr (.inl rfl))).trans (Di.ofWrote hw6 (.inr (.inr (.inl rfl))))))
 have nT:N≠q.T:=by have h1:=NL0.out;omega
 have nM:N≠q.M:=by have h1:=NL0.out;omega
 have kO:=Avp (hw6.cell (hw7.cell H.out.kO AP.1 (by simp)) AP.2.1 (by simp))
 have XO:=Avp ((H.out.out.wrote hw7 AP.2.2.1 (by simp)).wrote hw6 AP.2.2.2.1 (by simp))
 have KF:=Avp (show KAt w6 N p from⟨hw6.cell (hw7.cell K.out.c0 nT (by simp)) nM (by simp),hw6.cell (hw7.cell K.out.c1 nT (by simp)) nM (by simp),hw6.cell (hw7.cell K.out.c2 nT (by simp)) nM (by simp)⟩)
 have PF:=Avp ((P.out.wrote hw7 fun b hb=>⟨(HD.out b hb).1,by simp⟩).wrote hw6 fun b hb=>⟨(HD.out b hb).2,by simp⟩)
 have GF:=Avp (G0.out.low B6.out HG.out.1 HG.out.2)
 clear F2 hw7 hw6 H G K P B5 AP hlt bE nT nM
 go_wp2_with fail
 refine Bu 6 mixed (by kernel_rfl) (by kernel_rfl) ?_
 refine Al.step (Ob.move Aa.free Has.oldIs) ?_
 refine Al.step (Ob.nilV Aa.free (Has.new 0 0)) ?_
 refine Al.step (Ob.fieldV Aa.free (Has.new 1 0) (fun w2=>Af4)) ?_
 refine Al.step (Ob.loadV Aa.free (Has.new 2 0) (fun w2 hb2=>Alq hb2 kO.out)) ?_
 refine Al.step (Ob.move Aa.free Has.oldIs) ?_
 refine Al.step (Ob.loadV Aa.free Has.oldIs (fun w2 hb2=>KF.out.load hb2)) ?_
 simp only[Al,Ao,List.map,Bq,List.reverse_cons,List.reverse_nil,List.nil_append,List.cons_append,List.take_succ_cons,List.take_zero,List.drop_succ_cons,List.drop_zero]
 intro wE hE
 iterate 6 (rintro _ rfl)
 simp only[Act.put,List.setIfInBounds_toArray,List.set_cons_zero,List.set_cons_succ]
 have F3:=Avp (Aun (XO.out.mono hE) (PF.out.below hE).at_ HS.out (GF.out.mono hE).nm.ok HK.out)
 replace B6:=Avp (Ae B6.out (Ak hE (by have:=WL.out;have:=B6.out.size;omega)))
 replace K6:=Avp (K6.out.trans (Di.ofBelow hE))
 clear hE kO XO KF PF GF
 go_wp2_with fail
 refine F3.out.mono ?_
 rintro _ w8 ⟨⟨k8,rfl⟩,hw8⟩
 have K8:=Avp (K6.out.trans (Di.ofWrote hw8 (.inr (.inr (.inr (.inr (.inr rfl)))))))
 clear F3 hw8
 go_wp2
 refine bodyPost_ret (v:=.tuple #[]) (by simp[results,Tryz.results125,go_sem]) rfl ?_
 exact⟨⟨_,rfl⟩,K8.out⟩
def ChI (q:NPl) (w:World) (e:Ending) (w':World):Prop:=(∃ k:Int,e = .returned (.int .i64 k))∧Di q w w'
theorem FN.next {w w':World} {q:NPl} {n m:Int} (h:FN w q n) (hw:An q.C none w w') (hc:Kh w' q.C 1 m) (hf:w'.frozen? ⟨q.C,1,none⟩=false) (hN:q.C≠q.N):FN w' q m:=by
 have ap:=h.apart
 have hcI:q.I≠q.C:=fun e=>by
  have h1:=h.inb.cell 1 rfl
  rw[e,h.cnt.c1] at h1;cases h1
 have hcO:q.O≠q.C:=fun e=>by
  have h1:=h.out.cell 1 rfl
  rw[e,h.cnt.c1] at h1;cases h1
 have hcS:q.S≠q.C:=fun e=>by
  have h1:=h.tab.s0
  rw[e,h.cnt.c0] at h1;cases h1
 have fz:∀ (b o:Nat),b<w.heap.size->b≠q.C->w'.frozen? ⟨b,o,none⟩=w.frozen? ⟨b,o,none⟩:=fun b o hb hn=>by
  have:=hw.block b hb hn (by simp)
  simp only[World.frozen?,this]
 have nN:q.N≠q.C:=fun e=>hN e.symm
 have nT:q.T≠q.C:=fun e=>ap.2.2.2.2.1 e.symm
 exact⟨hw.cell h.k0 nN (by simp),hw.cell h.k1 nN (by simp),hw.cell h.k2 nN (by simp),hw.cell h.k3 nN (by simp),hw.cell h.kT nN (by simp),hw.cell h.kC nN (by simp),hw.cell h.kI nN (by simp),hw.cell h.kO nN (by simp),hw.cell h.k8 nN (by simp),
  ⟨hw.cell h.tab.t0 nT (by simp),hw.cell h.tab.t1 nT (by simp),hw.cell h.tab.s0 hcS (by simp),(hw.block _ (Array.getElem?_eq_some_iff.1 h.tab.m).1 (fun e=>ap.2.2.2.2.2 e.symm) (by simp)).trans h.tab.m⟩,
  hc,h.inb.wrote hw hcI (by simp),h.out.wrote hw hcO (by simp),(fz q.N 8 (World.block_lt_of_cell? w _ h.k0) nN).trans h.frN,(fz q.T 1 (World.block_lt_of_cell? w _ h.tab.t0) nT).trans h.frT,hf⟩
theorem FN.lts {w:World} {q:NPl} {n:Int} (h:FN w q n):q.N<w.heap.size∧q.T<w.heap.size∧q.S<w.heap.size∧q.M<w.heap.size∧q.C<w.heap.size∧q.I<w.heap.size∧q.O<w.heap.size:=
 ⟨World.block_lt_of_cell? w _ h.k0,World.block_lt_of_cell? w _ h.tab.t0,World.block_lt_of_cell? w _ h.tab.s0,(Array.getElem?_eq_some_iff.1 h.tab.m).1,World.block_lt_of_cell? w _ h.cnt.c0,h.inb.lt,h.out.lt⟩
theorem FN.low {w w':World} {q:NPl} {n:Int} {C:Nat} (h:FN w q n) (hb:Below C w w') (hC:q.N<C∧q.T<C∧q.S<C∧q.M<C∧q.C<C∧q.I<C∧q.O<C):FN w' q n:=by
 have c:=fun {b o:Nat} {v:Value} (hbl:b<C) (e:w.cell? ⟨b,o,none⟩=some v)=>(hb.cell (p:=⟨b,o,none⟩) hbl).trans e
 have f:=fun {b o:Nat} {v:Bool} (hbl:b<C) (e:w.frozen? ⟨b,o,none⟩=v)=>(hb.frozen (p:=⟨b,o,none⟩) hbl).trans e
 obtain⟨c1,c2,c3,c4,c5,c6,c7⟩:=hC
 exact⟨c c1 h.k0,c c1 h.k1,c c1 h.k2,c c1 h.k3,c c1 h.kT,c c1 h.kC,c c1 h.kI,c c1 h.kO,c c1 h.k8,⟨c c2 h.tab.t0,c c2 h.tab.t1,c c3 h.tab.s0,(hb.block _ c4).trans h.tab.m⟩,⟨c c5 h.cnt.c0,c c5 h.cnt.c1⟩,
  h.inb.same (hb.block _ c6) hb.size,h.out.same (hb.block _ c7) hb.size,f c1 h.frN,f c2 h.frT,f c5 h.frC⟩
theorem Aut {B:Nat} {w:World} {q:NPl} {n:Int} (key other item:List UInt8) (qty:Int) (ln:Nat) (A:Option Addr) (m:Nat) (h:FN w q n) (g:Cr w) (hC:q.C≠q.N) (hB:B<=q.T∧B<=q.M∧B<=q.O∧B<=q.C) (hg:2<B∧1<B) (hn:0<=n∧n<=1000) (hk:key.length<=300) (hi:item.length<=300) :
  Calls Tryz.prog 121 #[.pointer (some ⟨q.N,0,none⟩),.agg #[.int .i64 1,Ac key,Ac other,Ac item,.int .i64 qty,.slice A ln m]] w (ChI q w):=by
 have X:=Avp (Bx.new w #[.int .i64 1,Ac key,Ac other,Ac item,.int .i64 qty,.slice A ln m] 25)
 have hb0:Below w.heap.size w (w.alloc (.cells #[.int .i64 1,Ac key,Ac other,Ac item,.int .i64 qty,.slice A ln m] 25)):=by go_grown
 have BW:=Avp hb0
 have F:=Avp (Hq key (h.mono hb0) (g.mono hb0) (by omega))
 have H:=Avp (h.mono hb0);have G:=Avp (g.mono hb0);have HN:=Avp hn;have G0:=Avp g
 have HK:=Avp hk;have HI:=Avp hi;have HB:=Avp hB;have HG:=Avp hg;have HC:=Avp hC
 have WS:=Avp h.lts
 have WL:=Avp (show q.T<w.heap.size∧q.M<w.heap.size∧q.O<w.heap.size∧q.C<w.heap.size from⟨World.block_lt_of_cell? w _ h.tab.t0,(Array.getElem?_eq_some_iff.1 h.tab.m).1,h.out.lt,World.block_lt_of_cell? w _ h.cnt.c0⟩)
 obtain⟨N,hN⟩:∃ N,N=w.heap.size:=⟨_,rfl⟩
 have EN:=Avp hN
 rw[<-hN] at X
 clear h g hk hi hb0 hn hB hg hC
 go_enter Tryz.func121,Tryz.ntmps121
 go_wp2_with fail
 rw[<-hN]
 clear hN
 generalize w.alloc (.cells #[.int .i64 1,Ac key,Ac other,Ac item,.int .i64 qty,.slice A ln m] 25)=w1 at *
 have LX:=Avp (show N<w1.heap.size from X.out.lt)
 have q1:=X.out.cell 1 rfl
 go_wp2_with fail
 refine F.out.mono ?_
 rintro _ w2 ⟨_,rfl,hb2,p,rfl,hp⟩
 have hb3:Below w2.heap.size w2 (w2.alloc (.cells (Aw p) 141)):=by go_grown
 have XP:=Avp (Bx.new w2 (Aw p) 141)
 replace X:=Avp ((X.out.mono hb2).mono hb3);replace H:=Avp ((H.out.mono hb2).mono hb3);replace G:=Avp ((G.out.mono hb2).mono hb3)
 replace BW:=Avp ((BW.out.le hb2).le hb3)
 have PC:=Avp ((hp.below hb3).dom (D':=fun b=>b≠q.C) fun b hb=>by have h1:=WL.out;have h2:=LX.out;have h3:=EN.out;have:=hb.1;omega)
 obtain⟨J,hJ⟩:∃ J,J=w2.heap.size:=⟨_,rfl⟩
 have JL:=Avp (show N<J by have h1:=hb2.size;have h2:=LX.out;omega)
 rw[<-hJ] at XP
 have kC:=H.out.kC
 have F2:=Avp (Ask H.out.cnt H.out.frC (by decide) HN.out.1 (by have:=HN.out.2;omega))
 clear hb2 hb3 hp F q1 LX
 go_wp2_with fail
 rw[<-hJ]
 clear hJ
 generalize w2.alloc (.cells (Aw p) 141)=w3 at *
 refine F2.out.mono ?_
 rintro _ w4 ⟨rfl,hw4,hc4,hf4⟩
 have B4:=Avp (show Below B w w4 from Ae (Ak BW.out (by have:=WL.out;have:=HB.out;omega)) (hw4.below (by have:=WL.out;have:=HB.out;have:=BW.out.size;omega) HB.out.2.2.2 (by simp)))
 have K4:=Avp ((Di.ofBelow (q:=q) BW.out).trans (Di.ofWrote hw4 (.inr (.inr (.inr (.inl rfl))))))
 have cN:N≠q.C:=by have h1:=WL.out;have h3:=EN.out;omega
 have cJ:J≠q.C:=by have h1:=WL.out;have h3:=EN.out;have:=JL.out;omega
 replace H:=Avp (H.out.next hw4 hc4 hf4 HC.out);replace X:=Avp (X.out.wrote hw4 cN (by simp));replace XP:=Avp (XP.out.wrote hw4 cJ (by simp))
 have P4:=Avp ((PC.out.wrote hw4 fun b hb=>⟨hb,by simp⟩).at_)
 have S4:=Avp (show w.heap.size<=w4.heap.size by have:=BW.out.size;have:=hw4.size;omega)
 replace G:=Avp (G0.out.low B4.out HG.out.1 HG.out.2)
 clear hw4 hc4 hf4 cN cJ F2 PC BW kC
 obtain⟨w5,hw5⟩:∃ w5,w5=(w4.alloc (.cells (So (1,n+1)) 224)).alloc (.cells cartZ 141):=⟨_,rfl⟩
 obtain⟨I,hI⟩:∃ I,I=w4.heap.size:=⟨_,rfl⟩
 have q0:=X.out.cell 0 rfl;have q3:=X.out.cell 3 rfl;have q4:=X.out.cell 4 rfl
 have p0:=XP.out.cell 0 rfl;have p1:=XP.out.cell 1 rfl;have p2:=XP.out.cell 2 rfl
 have l1:=X.out.lt;have l2:=XP.out.lt
 have hb5:Below w4.heap.size w4 w5:=by rw[hw5];go_grown
 have XD:=Avp (show Bx w5 I (So (1,n+1)).toList by rw[hw5,hI];exact(Bx.new w4 (So (1,n+1)) 224).mono (by go_grown))
 have XZ:=Avp (show Bx w5 (I+1) cartZ.toList by rw[hw5,hI];have:=Bx.new (w4.alloc (.cells (So (1,n+1)) 224)) cartZ 141;rw[World.size_alloc] at this;exact this)
 replace H:=Avp (H.out.mono hb5);replace X:=Avp (X.out.mono hb5);replace XP:=Avp (XP.out.mono hb5);replace G:=Avp (G.out.mono hb5)
 replace P4:=Avp (P4.out.mono hb5 fun _ x=>x)
 have IL:=Avp (show w.heap.size<=I by rw[hI];exact S4.out)
 have JI:=Avp (show N<I∧J<I by rw[hI];exact⟨l1,l2⟩)
 replace K4:=Avp (K4.out.trans (Di.ofBelow hb5))
 replace B4:=Avp (Ae B4.out (Ak hb5 (by have:=WL.out;have:=HB.out;have:=S4.out;omega)))
 have F6:=Avp (Ath (nm:=item) (q:=qty) P4.out G.out.nm.ok Co (by have:=HI.out;omega))
 have L5:=Avp (show w.heap.size<=w5.heap.size by have:=hb5.size;have:=S4.out;omega)
 have HW5:=Avp hw5
 clear hw5 hb5 S4
 go_wp2_with fail
 rw[<-hI,<-HW5.out]
 clear hI HW5 q0 q3 q4 p0 p1 p2 l1 l2
 refine F6.out.mono ?_
 rintro _ w6 ⟨_,rfl,hb6,rfl⟩
 replace H:=Avp (H.out.mono hb6);replace X:=Avp (X.out.mono hb6);replace XP:=Avp (XP.out.mono hb6);replace G:=Avp (G.out.mono hb6);replace XD:=Avp (XD.out.mono hb6);replace XZ:=Avp (XZ.out.mono hb6)
 replace P4:=Avp (P4.out.mono hb6 fun _ x=>x)
 replace K4:=Avp (K4.out.trans (Di.ofBelow hb6))
 replace B4:=Avp (Ae B4.out (Ak hb6 (by have:=WL.out;have:=HB.out;have:=L5.out;omega)))
 have L6:=Avp (show w.heap.size<=w6.heap.size∧I+1<w6.heap.size from⟨Nat.le_trans L5.out hb6.size,XZ.out.lt⟩)
 generalize (U0 Bj item qty).1=qs at *
 have F7:=Avp (Auv (d:=(1,n+1)) (nm:=item) (q:=qs) P4.out G.out.nm.ok Co (by have:=HI.out;omega))
 have q3:=X.out.cell 3 rfl
 have p0:=XP.out.cell 0 rfl;have p1:=XP.out.cell 1 rfl;have p2:=XP.out.cell 2 rfl;have d0:=XD.out.cell 0 rfl;have d1:=XD.out.cell 1 rfl
 clear hb6 F6
 go_wp2_with fail
 refine F7.out.mono ?_
 rintro _ w7 ⟨_,rfl,hb7,_,rfl,p7,rfl,h7⟩
 replace H:=Avp (H.out.mono hb7);replace X:=Avp (X.out.mono hb7);replace G:=Avp (G.out.mono hb7);replace XZ:=Avp (XZ.out.mono hb7)
 replace K4:=Avp (K4.out.trans (Di.ofBelow hb7))
 replace B4:=Avp (Ae B4.out (Ak hb7 (by have:=WL.out;have:=HB.out;have:=L6.out;omega)))
 have P7:=Avp h7.if_
 have L7:=Avp hb7.size
 clear hb7 h7 F7 q3 p0 p1 p2 d0 d1
 go_wp2_with ((with_reducible refine Ai (I+1) ?_ ?_);(next=>rfl))
 unfold Az
 refine Af (J:=I+1) rfl rfl rfl rfl rfl XZ.out (show(Tryz.prog.info? 141).map (·.size)=some 3 by kernel_rfl) rfl (by simp[Value.oneCell']) ?_
 intro w9 hx9 hu9
 have X9:=Avp hx9;have U9:=Avp hu9
 clear hx9 hu9
 have hb9:=U9.out.below (B:=w.heap.size) (by have:=IL.out;omega)
 have xi:N≠I+1:=by have:=JI.out;omega
 have HF:=Avp (H.out.low hb9 WS.out)
 have q1:=(U9.out.bx X.out xi).cell 1 rfl
 have GF:=Avp (G0.out.low (Ae B4.out (Ak hb9 (by have:=WL.out;have:=HB.out;omega))) HG.out.1 HG.out.2)
 have KF:=Avp (K4.out.upd U9.out (by have:=IL.out;omega))
 have PF:=Avp ((P7.out.wrote U9.out.wrote fun b hb=>⟨by have:=hb.1;have:=L6.out;omega,by simp⟩).dom (D':=fun b=>b≠q.T∧b≠q.M) fun b hb=>by have:=hb.1;have:=L6.out;have:=WL.out;omega)
 have F9:=Avp (Ao2 (B:=B) (key:=key) HF.out GF.out ⟨HB.out.1,HB.out.2.1,HB.out.2.2.1⟩ HG.out PF.out (fun _ x=>x) (Abz _ _ _ _) (U3 _ _ _ _) (by have:=HK.out;omega))
 have x0:=X9.out.cell 0 rfl;have x1:=X9.out.cell 1 rfl;have x2:=X9.out.cell 2 rfl
 clear hb9 xi
 go_wp2_with fail
 refine F9.out.mono ?_
 rintro _ wf ⟨⟨_,rfl⟩,hbf⟩
 have BG:=Avp (KF.out.trans hbf)
 clear hbf F9 x0 x1 x2 q1
 go_wp2
 go_ret
 exact⟨⟨_,rfl⟩,BG.out⟩
theorem Abe {P:Program} {w:World} {M r:Nat} {ty:TypeId} (hr:w.heap[r]?=some (.mapIter (some M) 0 #[] 0)) (hb:w.heap[M]?=some (.map #[] 0)):(Instr.next (.pointer (some ⟨r,0,none⟩)) false ty).run P w = .ok (.tuple #[.bool false]) w:=by
 simp[Instr.next,getObj,Sem.run,hr,hb,Result.andThen,choose,Question.forced]
theorem Atl {w:World} {T S M:Nat} (h:TFr w T S M):Calls Tryz.prog 213 #[.pointer (some ⟨T,0,none⟩)] w (Ret w (Is (.slice none 0 0))):=by
 have F:=Avp (Ag8 h)
 have H:=Avp h
 clear h
 go_enter Tryz.func213,Tryz.ntmps213
 go_wp2_with fail
 refine F.out.mono ?_
 rintro _ w1 ⟨_,rfl,hb1,rfl⟩
 have B1:=Avp hb1
 have t0:=(H.out.mono hb1).t0
 clear hb1 F
 go_wp2
 go_loopw [3,14] (fun l i wr=>∃ k:Nat,l = .slice none 0 0∧i = .int .i64 k∧k<=1∧Below w.heap.size w wr) (fun _ i _=>1 - (intOf i).toNat)
 case atStart=>exact⟨0,rfl,rfl,by omega,B1.out⟩
 case round=>
  obtain⟨k,rfl,rfl,hk,hb⟩:=hrel
  have B2:=Avp hb
  clear t0 hb
  cases k with
  | zero=>
   have H2:=Avp (H.out.mono B2.out)
   have s0:=H2.out.s0;have m0:=H2.out.m
   have hrg:=run_range_map (P:=Tryz.prog) wr 265 _ _ M #[] 0 Tryz.underlying265 m0
   have hit:(wr.alloc (.mapIter (some M) 0 #[] 0)).heap[wr.heap.size]?=some (.mapIter (some M) 0 #[] 0):=heap_alloc_new _ _
   have hm3:(wr.alloc (.mapIter (some M) 0 #[] 0)).heap[M]?=some (.map #[] 0):=by rw[heap_alloc_old _ _ (Array.getElem?_eq_some_iff.1 m0).1];exact m0
   have NX:=Avp (fun ty=>Abe (P:=Tryz.prog) (ty:=ty) hit hm3)
   have B3:=Avp (B2.out.le (show Below wr.heap.size wr (wr.alloc (.mapIter (some M) 0 #[] 0)) by go_grown))
   clear hit hm3
   go_wp2
   go_loopw [3] (fun l wx=>l = .slice none 0 0∧wx=wr.alloc (.mapIter (some M) 0 #[] 0)) (fun _ _=>0)
   case atStart=>exact⟨rfl,rfl⟩
   case round=>
    obtain⟨rfl,rfl⟩:=hrel
    have nx:=NX.out
    go_wp2
    go_roundw
    case rel=>exact⟨1,rfl,rfl,by omega,B3.out⟩
    case measure=>simp[intOf]
  | succ k=>
   have hk0:k=0:=by omega
   subst hk0
   clear hk
   go_wp2_with fail
   refine(Apb w.heap.size (.slice none 0 0) [] wr (Ag.nil_ _ _ _ _) (by unfold Small;simp)).mono ?_
   rintro _ w5 ⟨rfl,hb5,_⟩
   have B5:=Avp (Ae B2.out hb5)
   clear hb5
   go_wp2
   go_ret
   exact⟨_,rfl,B5.out,rfl⟩
theorem Arp {w:World} {T S M:Nat} (h:TFr w T S M):Calls Tryz.prog 134 #[.pointer (some ⟨T,0,none⟩)] w (Ret w (Is (.slice none 0 0))):=by
 have F:=Avp (Atl h)
 clear h
 go_enter Tryz.func134,Tryz.ntmps134
 go_wp2_with fail
 refine F.out.mono ?_
 rintro _ w1 ⟨_,rfl,hb1,rfl⟩
 have B1:=Avp hb1
 clear hb1 F
 go_wp2
 go_loopw [3,11] (fun l i wr=>l = .slice none 0 0∧i = .int .i64 0∧wr=w1) (fun _ _ _=>0)
 case atStart=>exact⟨rfl,rfl,rfl⟩
 case round=>
  obtain⟨rfl,rfl,rfl⟩:=hrel
  go_wp2
  go_ret
  exact⟨_,rfl,B1.out,rfl⟩
theorem Aof {A:Option Addr} {c:Nat} {w:World} (h:Cb (fun _=>True) w A 0 c []) (hn:Bk w):Calls Tryz.prog 212 #[.slice A 0 c] w (Ret w (Is (.tuple #[.slice none 0 0,.int .i64 0]))):=by
 have F:=Avp (Iu h hn)
 rw[show Cf []=true from rfl] at F
 clear h hn
 go_enter Tryz.func212,Tryz.ntmps212
 go_wp2_with fail
 refine F.out.mono ?_
 rintro _ w1 ⟨_,rfl,hb1,rfl⟩
 have B1:=Avp hb1
 clear hb1 F
 go_wp2
 go_loopw [4,5,6,21] (fun a b d i wr=>a = .slice none 0 0∧b = .int .i64 0∧d = .int .i64 0∧i = .int .i64 0∧wr=w1) (fun _ _ _ _ _=>0)
 case atStart=>exact⟨rfl,rfl,rfl,rfl,rfl⟩
 case round=>
  obtain⟨rfl,rfl,rfl,rfl,rfl⟩:=hrel
  go_wp2
  refine bodyPost_ret (v:=.tuple #[.slice none 0 0,.int .i64 0]) (by simp[results,Tryz.results212,go_sem]) rfl ?_
  exact⟨_,rfl,B1.out,rfl⟩
theorem Zn {w:World} (hn:Bk w):Calls Tryz.prog 210 #[.slice none 0 0,.slice none 0 0] w (Ret w (fun w' v=>∃ A c,v = .tuple #[.slice A 0 c,.int .i64 0]∧Cb (fun _=>True) w' A 0 c [])):=by
 refine(Acy (Cb.nil_ (fun _=>True) w) hn (by simp)).mono ?_
 rintro _ w' ⟨v,e,hb,hv⟩
 unfold Gh at hv
 rw[show(Cf []&&Cf [])=true from rfl] at hv
 simp only[if_true,List.append_nil] at hv
 obtain⟨u,rfl,A,n,c,rfl,he⟩:=hv
 have hl:=he.len
 simp only[List.length_nil] at hl
 subst hl
 obtain⟨es,e1,e2,e3,e4⟩:=he
 exact⟨_,e,hb,A,c,rfl,es,e1,e2,fun _ _=>trivial,fun x hx=>(e4 x hx).mono (Below.refl _ _) fun _ _=>trivial⟩
def DrP (O:Nat) (w:World) (e:Ending) (w':World):Prop:=e = .returned (.tuple #[.slice none 0 0,.int .i64 0])∧An O none w w'
theorem Aby {w:World} {O:Nat} (h:Bx w O [.int .i64 1,.slice none 0 0,.slice none 0 0]) (hn:Bk w):Calls Tryz.prog 133 #[.pointer (some ⟨O,0,none⟩),.slice none 0 0] w (DrP O w):=by
 have F1:=Avp (Apj h)
 have H:=Avp h;have NM:=Avp hn;have B:=Avp (Below.refl w.heap.size w)
 clear h hn
 go_enter Tryz.func133,Tryz.ntmps133
 go_wp2_with fail
 refine F1.out.mono ?_
 rintro _ w1 ⟨_,rfl,hb1,rfl⟩
 replace B:=Avp (B.out.le hb1);replace H:=Avp (H.out.mono hb1);replace NM:=Avp (NM.out.mono hb1)
 clear hb1 F1
 go_wp2_with fail
 refine(Zn NM.out).mono ?_
 rintro _ w2 ⟨_,rfl,hb2,A2,c2,rfl,_⟩
 replace B:=Avp (B.out.le hb2);replace H:=Avp (H.out.mono hb2);replace NM:=Avp (NM.out.mono hb2)
 have o2:=H.out.cell 2 rfl
 clear hb2
 go_wp2
 go_loopw [8,31] (fun a i wr=>a = .slice none 0 0∧i = .int .i64 0∧wr=w2) (fun _ _ _=>0)
 case atStart=>exact⟨rfl,rfl,rfl⟩
 case round=>
  obtain⟨rfl,rfl,rfl⟩:=hrel
  have o1:=H.out.cell 1 rfl
  go_wp2_with fail
  refine(Zn NM.out).mono ?_
  rintro _ w3 ⟨_,rfl,hb3,A3,c3,rfl,he3⟩
  replace B:=Avp (B.out.le hb3);replace H:=Avp (H.out.mono hb3);replace NM:=Avp (NM.out.mono hb3)
  have HE:=Avp he3
  clear hb3 o1 o2 he3
  go_wp2_with fail
  refine(Aof HE.out NM.out).mono ?_
  rintro _ w4 ⟨_,rfl,hb4,rfl⟩
  replace B:=Avp (B.out.le hb4);replace H:=Avp (H.out.mono hb4)
  have o1:=H.out.cell 1 rfl;have o2:=H.out.cell 2 rfl;have f1:=H.out.fr 1 (by simp);have f2:=H.out.fr 2 (by simp)
  clear hb4 HE
  go_wp2
  refine bodyPost_ret (v:=.tuple #[.slice none 0 0,.int .i64 0]) (by simp[results,Tryz.results133,go_sem]) rfl ?_
  exact⟨rfl,((An.ofBelow B.out:An O none w _).setAny (o:=1) _).setAny (o:=2) _⟩
theorem Ck.noItems {D:Nat->Prop} {w:World} {p:CPl} (h:Ck D w p Bj):p.k=0:=by
 obtain⟨es,e1,e2,_⟩:=h.its
 have:es=[]:=List.map_eq_nil_iff.1 e1
 subst this
 exact e2.len
theorem Aq1 {w:World} {q:NPl} {n:Int} (key other item:List UInt8) (qty:Int) (ln:Nat) (A:Option Addr) (m:Nat) (h:FN w q n) (g:Cr w) (hk:key.length<=300) :
  Calls Tryz.prog 130 #[.pointer (some ⟨q.N,0,none⟩),.agg #[.int .i64 7,Ac key,Ac other,Ac item,.int .i64 qty,.slice A ln m]] w (Ret w (IsI 0)):=by
 have X:=Avp (Bx.new w #[.int .i64 7,Ac key,Ac other,Ac item,.int .i64 qty,.slice A ln m] 25)
 have hb0:Below w.heap.size w (w.alloc (.cells #[.int .i64 7,Ac key,Ac other,Ac item,.int .i64 qty,.slice A ln m] 25)):=by go_grown
 have BW:=Avp hb0
 have F:=Avp (Hq key (h.mono hb0) (g.mono hb0) (by omega))
 obtain⟨N,hN⟩:∃ N,N=w.heap.size:=⟨_,rfl⟩
 rw[<-hN] at X
 clear h g hk hb0
 go_enter Tryz.func130,Tryz.ntmps130
 go_wp2_with fail
 rw[<-hN]
 clear hN
 generalize w.alloc (.cells #[.int .i64 7,Ac key,Ac other,Ac item,.int .i64 qty,.slice A ln m] 25)=w1 at *
 have q1:=X.out.cell 1 rfl
 go_wp2_with fail
 refine F.out.mono ?_
 rintro _ w2 ⟨_,rfl,hb2,p,rfl,hp⟩
 have hk0:=hp.noItems
 obtain⟨pA,pn,pca,pB,pm,pcb,pC,pk,pcc⟩:=p
 simp only at hk0
 subst hk0
 have hb3:Below w2.heap.size w2 (w2.alloc (.cells #[.slice pA pn pca,.slice pB pm pcb,.slice pC 0 pcc] 141)):=by go_grown
 have B3:=Avp ((BW.out.le hb2).le hb3)
 clear hb2 hb3 hp F q1 BW X
 go_wp2
 go_ret
 exact Gz rfl B3.out
def Oi (r:Option (List EnS)):Int:=match r with
 | some l=>if 1<l.length then 11 else 0
 | none=>0
theorem Sj
  {w:World} {q:NPl} {n:Int} (key other item data:List UInt8) (qty:Int) (ln:Nat) (A:Option Addr) (m:Nat) (h:FN w q n) (g:Cr w) (hn:0<=n∧n<=1000) (hk:key.length<=300) (ho:other.length<=300) (hi:item.length<=300) (hd:Sl encB w A ln m data) (hdl:data.length<=300)
  : Calls Tryz.prog 120 #[.pointer (some ⟨q.N,0,none⟩),.agg #[.int .i64 8,Ac key,Ac other,Ac item,.int .i64 qty,.slice A ln m]] w (Ret w (IsI (Oi (Gy data)))):=by
 have X:=Avp (Bx.new w #[.int .i64 8,Ac key,Ac other,Ac item,.int .i64 qty,.slice A ln m] 25)
 have hb0:Below w.heap.size w (w.alloc (.cells #[.int .i64 8,Ac key,Ac other,Ac item,.int .i64 qty,.slice A ln m] 25)):=by go_grown
 have B:=Avp hb0
 have F:=Avp (Hq key (h.mono hb0) (g.mono hb0) (by omega))
 have H:=Avp h;have G:=Avp g;have HN:=Avp hn
 have HK:=Avp hk;have HI:=Avp hi;have HO:=Avp ho;have HD:=Avp hd;have HDL:=Avp hdl
 obtain⟨N,hN⟩:∃ N,N=w.heap.size:=⟨_,rfl⟩
 rw[<-hN] at X
 clear h g hk ho hi hd hdl hb0 hn
 go_enter Tryz.func120,Tryz.ntmps120
 go_wp2_with fail
 rw[<-hN]
 clear hN
 refine F.out.mono ?_
 rintro _ w1 ⟨_,rfl,hb1,p,rfl,hp⟩
 have hb2:Below w1.heap.size w1 (w1.alloc (.cells (Aw p) 141)):=by go_grown
 replace X:=Avp ((X.out.mono hb1).mono hb2)
 replace B:=Avp ((B.out.le hb1).le hb2)
 have XP:=Avp (Bx.new w1 (Aw p) 141)
 have P:=Avp ((hp.below hb2).at_)
 have q0:=X.out.cell 0 rfl;have q1:=X.out.cell 1 rfl;have q2:=X.out.cell 2 rfl;have q3:=X.out.cell 3 rfl;have q4:=X.out.cell 4 rfl;have q5:=X.out.cell 5 rfl
 have p0:=XP.out.cell 0 rfl;have p1:=XP.out.cell 1 rfl;have p2:=XP.out.cell 2 rfl
 clear hb1 hb2 F hp
 have D:=Avp (Mq (HD.out.mono B.out) (by have:=HDL.out;omega) (G.out.mono B.out).nm)
 cases hd:Gy data with
 | none=>
  rw[hd] at D
  unfold Afw at D
  have HDD:=Avp hd
  clear hd
  go_wp2_with fail
  refine D.out.mono ?_
  rintro _ w2 ⟨hb2,rfl⟩
  replace B:=Avp (B.out.le hb2)
  have kI:=(H.out.mono B.out).kI
  have RM:=Avp (Ac5 (H.out.mono B.out).inb)
  clear hb2 q0 q1 q2 q3 q4 q5 p0 p1 p2 D
  go_wp2_with fail
  refine RM.out.mono ?_
  rintro _ w3 ⟨_,rfl,hb3,rfl⟩
  replace B:=Avp (B.out.le hb3)
  clear hb3 kI RM
  go_wp2
  go_ret
  exact Gz (by rw[HDD.out];rfl) B.out
 | some es=>
  rw[hd] at D
  unfold Afw at D
  have HDD:=Avp hd
  clear hd
  go_wp2_with fail
  refine D.out.mono ?_
  rintro _ w2 ⟨hb2,v2,rfl,A2,n2,c2,rfl,he2⟩
  have L2:=Avp he2.len
  have hn2:n2<=9223372036854775807:=by
   obtain⟨_,_,e2,_⟩:=he2
   have h1:=e2.cap;have h2:=e2.max
   unfold maxLen at h2;omega
  replace B:=Avp (B.out.le hb2)
  have kI:=(H.out.mono B.out).kI
  have RM:=Avp (Ac5 (H.out.mono B.out).inb)
  clear hb2 he2 q0 q1 q2 q3 q4 q5 p0 p1 p2 D
  go_wp2_with fail
  refine RM.out.mono ?_
  rintro _ w3 ⟨_,rfl,hb3,rfl⟩
  replace B:=Avp (B.out.le hb3)
  clear hb3 kI RM
  by_cases hc:1<es.length
  ·have hc2:(1:Int)<(n2:Int):=by have:=L2.out;omega
   go_wp2
   go_ret
   exact Gz (by rw[HDD.out];simp[Oi,hc]) B.out
  ·have hc2:¬(1:Int)<(n2:Int):=by have:=L2.out;omega
   go_wp2
   go_ret
   exact Gz (by rw[HDD.out];simp[Oi,hc]) B.out
abbrev ansZ:Array Value:=#[.int .i64 0,.int .i64 0,.int .i64 0,.slice none 0 0,.slice none 0 0]
theorem J6 {w:World} {b T:Nat} (h:w.cell? ⟨b,4,none⟩=some (.pointer (some ⟨T,0,none⟩))):Calls Tryz.prog 117 #[.pointer (some ⟨b,0,none⟩)] w (Ret w (IsB false)):=by
 go_enter Tryz.func117,Tryz.ntmps117
 go_wp2
 go_ret
 exact Ay rfl (Below.refl _ _)
def DoP (B:Nat) (k:Int) (w:World) (e:Ending) (w':World):Prop:=(∃ a:Value,e = .returned (.tuple #[a,.int .i64 k]))∧Below B w w'
theorem At2 {B:Nat} {w:World} {q:NPl} {n:Int} (c:Ce) (A:Option Addr) (m:Nat) (h:FN w q n) (hB:B<=w.heap.size) (hf:Br c=false) :
  Calls Tryz.prog 80 #[.pointer (some ⟨q.N,0,none⟩),Aq c A c.data.length m] w (DoP B 2 w):=by
 obtain⟨w1,hw1⟩:∃ w1,w1=(w.alloc (.cells (Rv c A c.data.length m) 25)).alloc (.cells ansZ 60):=⟨_,rfl⟩
 obtain⟨N,hN⟩:∃ N,N=w.heap.size:=⟨_,rfl⟩
 have hb1:Below w.heap.size w w1:=by rw[hw1];go_grown
 have X:=Avp (show Bx w1 N (Rv c A c.data.length m).toList by rw[hw1,hN];exact(Bx.new w _ 25).mono (by go_grown))
 have Z:=Avp (show Bx w1 (N+1) ansZ.toList by rw[hw1,hN];have:=Bx.new (w.alloc (.cells (Rv c A c.data.length m) 25)) ansZ 60;rw[World.size_alloc] at this;exact this)
 have F0:=Avp (J6 (h.mono hb1).kT)
 have B1:=Avp hb1
 have F1:=Avp (fun w2=>Fg c A m w2)
 rw[hf] at F1
 have HB:=Avp hB;have EN:=Avp hN;have HW:=Avp hw1
 clear h hB hf hb1 hw1
 obtain⟨op,key,other,item,qty,data⟩:=c
 unfold Aq at *
 simp only at *
 generalize data.length=n at *
 go_enter Tryz.func80,Tryz.ntmps80
 go_wp2_with fail
 rw[<-hN,<-HW.out]
 clear hN HW
 refine F0.out.mono ?_
 rintro _ w2 ⟨_,rfl,hb2,rfl⟩
 replace B1:=Avp (B1.out.le hb2);replace X:=Avp (X.out.mono hb2);replace Z:=Avp (Z.out.mono hb2)
 have q0:=X.out.cell 0 rfl;have q1:=X.out.cell 1 rfl;have q2:=X.out.cell 2 rfl;have q3:=X.out.cell 3 rfl;have q4:=X.out.cell 4 rfl;have q5:=X.out.cell 5 rfl
 clear hb2 F0
 go_wp2_with fail
 refine(F1.out _).mono ?_
 rintro _ w3 ⟨_,rfl,hb3,rfl⟩
 replace B1:=Avp (B1.out.le hb3);replace Z:=Avp (Z.out.mono hb3)
 clear hb3 F1 q0 q1 q2 q3 q4 q5
 go_wp2_with ((with_reducible refine Ai (N+1) ?_ ?_);(next=>rfl))
 unfold Az
 refine Af (J:=N+1) rfl rfl rfl rfl rfl Z.out (show(Tryz.prog.info? 60).map (·.size)=some 5 by kernel_rfl) rfl (by simp[Value.oneCell']) ?_
 intro w9 hx9 hu9
 have X9:=Avp hx9;have U9:=Avp hu9
 clear hx9 hu9
 go_wp2
 refine bodyPost_ret (v:=.tuple #[.agg ansZ,.int .i64 2]) ?_ rfl ?_
 ·exact Ah Tryz.results80 rfl rfl X9.out Tryz.underlying60 rfl (show(Tryz.prog.info? 60).map (·.size)=some 5 by kernel_rfl)
 have en:=EN.out
 exact⟨⟨_,rfl⟩,Ae (Ak B1.out HB.out) (U9.out.below (by have:=HB.out;omega))⟩
def Avi (B:Nat) (w:World) (v:Value):Prop:=∃ T S M:Nat,v = .tuple #[.pointer (some ⟨T,0,none⟩),.int .i64 0]∧TFr w T S M∧w.frozen? ⟨T,1,none⟩=false∧B<=T∧B<=S∧B<=M
theorem Atn (w:World):Calls Tryz.prog 100 #[.int .i64 1] w (Ret w (fun w' v=>∃ I,w.heap.size<=I∧v = .tuple #[.pointer (some ⟨I,0,none⟩),.int .i64 0]∧Bx w' I (#[.int .i64 1,.slice none 0 0,.int .i64 0,.int .i64 0]:Array Value).toList)):=by
 have X:=Avp (Bx.new w #[.int .i64 1,.slice none 0 0,.int .i64 0,.int .i64 0] 270)
 have B:=Avp (show Below w.heap.size w (w.alloc (.cells #[.int .i64 1,.slice none 0 0,.int .i64 0,.int .i64 0] 270)) by go_grown)
 go_enter Tryz.func100,Tryz.ntmps100
 go_wp2
 refine bodyPost_ret (v:=.tuple #[.pointer (some ⟨w.heap.size,0,none⟩),.int .i64 0]) (by simp[results,Tryz.results100,go_sem]) rfl ?_
 exact⟨_,rfl,B.out,_,Nat.le_refl _,rfl,X.out⟩
theorem Asx (w:World):Calls Tryz.prog 101 #[.int .i64 1] w (Ret w (fun w' v=>∃ I,w.heap.size<=I∧v = .tuple #[.pointer (some ⟨I,0,none⟩),.int .i64 0]∧Bx w' I (#[.int .i64 1,.slice none 0 0,.slice none 0 0]:Array Value).toList)):=by
 have X:=Avp (Bx.new w #[.int .i64 1,.slice none 0 0,.slice none 0 0] 272)
 have B:=Avp (show Below w.heap.size w (w.alloc (.cells #[.int .i64 1,.slice none 0 0,.slice none 0 0] 272)) by go_grown)
 go_enter Tryz.func101,Tryz.ntmps101
 go_wp2
 refine bodyPost_ret (v:=.tuple #[.pointer (some ⟨w.heap.size,0,none⟩),.int .i64 0]) (by simp[results,Tryz.results101,go_sem]) rfl ?_
 exact⟨_,rfl,B.out,_,Nat.le_refl _,rfl,X.out⟩
theorem Apr (w:World):Calls Tryz.prog 99 #[.int .i64 1,.int .i64 0] w (Ret w (fun w' v=>∃ C,w.heap.size<=C∧v = .tuple #[.pointer (some ⟨C,0,none⟩),.int .i64 0]∧Bx w' C [.int .i64 1,.int .i64 0])):=by
 have F:=Avp (fun w1=>Lw 1 1 w1)
 rw[show Bm (1,1)=true by decide] at F
 go_enter Tryz.func99,Tryz.ntmps99
 go_wp2_with fail
 refine(F.out _).mono ?_
 rintro _ w1 ⟨_,rfl,hb1,rfl⟩
 have X:=Avp (Bx.new w1 #[.int .i64 1,.int .i64 0] 268)
 have B:=Avp (hb1.le (show Below w1.heap.size w1 (w1.alloc (.cells #[.int .i64 1,.int .i64 0] 268)) by go_grown))
 have L:=Avp hb1.size
 clear hb1 F
 go_wp2
 refine bodyPost_ret (v:=.tuple #[.pointer (some ⟨w1.heap.size,0,none⟩),.int .i64 0]) (by simp[results,Tryz.results99,go_sem]) rfl ?_
 exact⟨_,rfl,B.out,_,L.out,rfl,X.out⟩
theorem Ap4 (W:World):(Instr.makeMap 265 none).run Tryz.prog W = .ok (.map (some W.heap.size)) (W.alloc (.map #[] 0)):=by
 simp[Instr.makeMap,go_sem]
theorem Ape (w:World):Calls Tryz.prog 98 #[.int .i64 1] w (Ret w (Avi w.heap.size)):=by
 obtain⟨i,hi,hz,hsz,hby⟩:=info_parts (P:=Tryz.prog) (show(Tryz.prog.info? 265).map (fun i=>(i.zero,i.size,i.bytes))=some (some (.map none),1,8) by kernel_rfl)
 have HZ:=Avp hz;have HS:=Avp hsz;have HY:=Avp hby;have HI:=Avp hi
 clear hz hsz hby hi
 go_enter Tryz.func98,Tryz.ntmps98
 go_wp2_with (first
  | (at_make;refine wpList_make_full w rfl _ _ 262 rfl w.heap.size 265 i _ 1 Tryz.underlying262 HI.out HZ.out HS.out .i64 .i64 1 1 1 rfl rfl rfl rfl (by rw[HY.out];omega) (by unfold maxLen;omega) (Nat.le_refl _) ?_;intro w6 ho hg;have HO:=Avp ho;have HG:=Avp hg;clear ho hg)
  | fail)
 obtain⟨r,hr⟩:∃ r,r=w.heap.size:=⟨_,rfl⟩
 rw[<-hr] at HO ⊢
 have HOO:=HO.out
 rw[show(madeCells (Value.map none).cells (1*1)).toList=[.map none] by kernel_rfl] at HOO
 have r0:w6.cell? ⟨r,0,none⟩=some (.map none):=by
  have:=World.ownsRow.cells HOO rfl 0 (.map none) rfl
  rwa [Bz] at this
 have rf:w6.frozen? ⟨r,0,none⟩=false:=World.ownsRow.frozenAt HOO _
 have rl:r<w6.heap.size:=(World.ownsRow.lt HOO r rfl).2
 have EQ:=Avp hr
 have B6:=Avp (show Below w.heap.size w w6 from(Below.refl _ _).grown HG.out (Nat.le_refl _) (fun q hq=>nomatch hq))
 have WL:=Avp (show w.heap.size<=w6.heap.size from B6.out.size)
 clear HO HOO HG hr
 go_loopw [21] (fun i wr=>∃ k:Nat,i = .int .i64 k∧k<=1∧(k=0->wr=w6.alloc (.cells #[.slice (some ⟨r,0,none⟩) 1 1,.int .i64 0] 264))∧(k=1->∃ M,TFr wr w6.heap.size r M∧wr.frozen? ⟨w6.heap.size,1,none⟩=false∧w.heap.size<=M∧Below w.heap.size w wr)) (fun i _=>1 - (intOf i).toNat)
 case atStart=>exact⟨0,rfl,by omega,fun _=>rfl,fun h=>by omega⟩
 case round=>
  obtain⟨k,rfl,hk,h0,h1⟩:=hrel
  cases k with
  | zero=>
   have:=h0 rfl
   subst this
   have hmk:=Ap4 (w6.alloc (.cells #[.slice (some ⟨r,0,none⟩) 1 1,.int .i64 0] 264))
   clear h0 h1 hk
   go_wp2
   go_roundw
   case rel=>
    refine⟨1,rfl,by omega,fun h=>by omega,fun _=>?_⟩
    have s0:(w6.setCell ⟨r,0,none⟩ (.map (some (w6.heap.size+1)))).cell? ⟨r,0,none⟩=some (.map (some (w6.heap.size+1))):=by simp[go_sem,r0]
    have hs:(w6.setCell ⟨r,0,none⟩ (.map (some (w6.heap.size+1)))).heap.size=w6.heap.size:=by simp
    have hb0:Below w.heap.size w (w6.setCell ⟨r,0,none⟩ (.map (some (w6.heap.size+1)))):=B6.out.setCell (p:=⟨r,0,none⟩) (by simp;exact Nat.le_of_eq EQ.out.symm) _
    have wl:=WL.out
    generalize w6.setCell ⟨r,0,none⟩ (.map (some (w6.heap.size+1)))=wS at *
    have TX:=Bx.new wS #[.slice (some ⟨r,0,none⟩) 1 1,.int .i64 0] 264
    have h1:Below wS.heap.size wS (wS.alloc (.cells #[.slice (some ⟨r,0,none⟩) 1 1,.int .i64 0] 264)):=by go_grown
    generalize hwT:wS.alloc (.cells #[.slice (some ⟨r,0,none⟩) 1 1,.int .i64 0] 264)=wT at *
    have hsT:wT.heap.size=w6.heap.size+1:=by rw[<-hwT];simp[hs]
    have h2:Below wT.heap.size wT (wT.alloc (.map #[] 0)):=by go_grown
    have hm:(wT.alloc (.map #[] 0)).heap[w6.heap.size+1]?=some (.map #[] 0):=by rw[<-hsT];exact heap_alloc_new wT _
    have TY:=TX.mono h2
    rw[hs] at TY
    exact⟨_,⟨TY.cell 0 rfl,TY.cell 1 rfl,Ad h2 (Ad h1 s0),hm⟩,TY.fr 1 (by simp),by omega,Ae hb0 (Ae (Ak h1 (by omega)) (Ak h2 (by omega)))⟩
   case measure=>simp[intOf]
  | succ k=>
   have hk0:k=0:=by omega
   subst hk0
   obtain⟨M,hm,hf,hM,hb⟩:=h1 rfl
   have t0:=hm.t0
   have MM:=Avp hm;have FF:=Avp hf;have BM:=Avp hM;have BB:=Avp hb
   clear hm hf hM hb h0 h1 hk
   go_wp2
   refine bodyPost_ret (v:=.tuple #[.pointer (some ⟨w6.heap.size,0,none⟩),.int .i64 0]) (by simp[results,Tryz.results98,go_sem]) rfl ?_
   have e:=EQ.out
   exact⟨_,rfl,BB.out,_,_,_,rfl,MM.out,FF.out,WL.out,by omega,BM.out⟩
theorem Avc
  {B:Nat} {w:World} {q:NPl} {n:Int} (key other item data:List UInt8) (qty:Int) (ln:Nat) (A:Option Addr) (m:Nat) (h:FN w q n) (g:Cr w) (hC:q.C≠q.N) (hB:B<=q.N∧B<=q.T∧B<=q.M∧B<=q.O∧B<=q.C∧B<=q.I) (hg:2<B∧1<B) (hn:0<=n∧n<=1000) (hk:key.length<=300) (ho:other.length<=300) (hi:item.length<=300) (hd:Sl encB w A ln m data) (hdl:data.length<=300) (hf:Br ⟨2,key,other,item,qty,data⟩=true)
  :
  Calls Tryz.prog 80 #[.pointer (some ⟨q.N,0,none⟩),.agg #[.int .i64 2,Ac key,Ac other,Ac item,.int .i64 qty,.slice A ln m]] w (DoP B 0 w)
  :=by
 have hln:=hd.len
 obtain⟨w1,hw1⟩:∃ w1,w1=(w.alloc (.cells #[.int .i64 2,Ac key,Ac other,Ac item,.int .i64 qty,.slice A ln m] 25)).alloc (.cells ansZ 60):=⟨_,rfl⟩
 obtain⟨N,hN⟩:∃ N,N=w.heap.size:=⟨_,rfl⟩
 have hb1:Below w.heap.size w w1:=by rw[hw1];go_grown
 have X:=Avp (show Bx w1 N [.int .i64 2,Ac key,Ac other,Ac item,.int .i64 qty,.slice A ln m] by rw[hw1,hN];exact(Bx.new w _ 25).mono (by go_grown))
 have Z:=Avp (show Bx w1 (N+1) ansZ.toList by rw[hw1,hN];have:=Bx.new (w.alloc (.cells #[.int .i64 2,Ac key,Ac other,Ac item,.int .i64 qty,.slice A ln m] 25)) ansZ 60;rw[World.size_alloc] at this;exact this)
 have F0:=Avp (J6 (h.mono hb1).kT)
 have B1:=Avp hb1
 have F1:=Avp (fun w2=>Fg ⟨2,key,other,item,qty,data⟩ A m w2)
 rw[hf] at F1
 unfold Aq at F1
 simp only at F1
 rw[<-hln] at F1
 have H:=Avp (h.mono hb1);have G:=Avp (g.mono hb1);have HN:=Avp hn;have HCN:=Avp hC;have G0:=Avp g
 have HK:=Avp hk;have HI:=Avp hi;have HO:=Avp ho;have HD:=Avp (hd.mono hb1);have HDL:=Avp hdl;have HB:=Avp hB;have HG:=Avp hg;have WS:=Avp h.lts
 have WB:=Avp (show B<=w.heap.size by have:=h.lts;omega)
 have EN:=Avp hN;have HW:=Avp hw1
 clear h hB hf hb1 hw1 g hC hn hk ho hi hd hdl hg hln
 go_enter Tryz.func80,Tryz.ntmps80
 go_wp2_with fail
 rw[<-hN,<-HW.out]
 clear hN HW
 refine F0.out.mono ?_
 rintro _ w2 ⟨_,rfl,hb2,rfl⟩
 replace B1:=Avp (B1.out.le hb2);replace X:=Avp (X.out.mono hb2);replace Z:=Avp (Z.out.mono hb2);replace H:=Avp (H.out.mono hb2);replace G:=Avp (G.out.mono hb2);replace HD:=Avp (HD.out.mono hb2)
 have q0:=X.out.cell 0 rfl;have q1:=X.out.cell 1 rfl;have q2:=X.out.cell 2 rfl;have q3:=X.out.cell 3 rfl;have q4:=X.out.cell 4 rfl;have q5:=X.out.cell 5 rfl
 clear hb2 F0
 go_wp2_with fail
 refine(F1.out _).mono ?_
 rintro _ w3 ⟨_,rfl,hb3,rfl⟩
 replace B1:=Avp (B1.out.le hb3);replace X:=Avp (X.out.mono hb3);replace Z:=Avp (Z.out.mono hb3);replace H:=Avp (H.out.mono hb3);replace G:=Avp (G.out.mono hb3);replace HD:=Avp (HD.out.mono hb3)
 replace q0:=X.out.cell 0 rfl;replace q1:=X.out.cell 1 rfl;replace q2:=X.out.cell 2 rfl;replace q3:=X.out.cell 3 rfl;replace q4:=X.out.cell 4 rfl;replace q5:=X.out.cell 5 rfl
 have F2:=Avp (Amr key other item data qty ln A m H.out G.out HK.out HO.out HI.out HD.out HDL.out)
 clear hb3 F1
 go_wp2_with fail
 refine F2.out.mono ?_
 rintro _ w4 ⟨_,rfl,hb4,e,rfl⟩
 replace B1:=Avp (B1.out.le hb4);replace X:=Avp (X.out.mono hb4);replace Z:=Avp (Z.out.mono hb4);replace H:=Avp (H.out.mono hb4);replace G:=Avp (G.out.mono hb4);replace HD:=Avp (HD.out.mono hb4)
 replace q0:=X.out.cell 0 rfl;replace q1:=X.out.cell 1 rfl;replace q2:=X.out.cell 2 rfl;replace q3:=X.out.cell 3 rfl;replace q4:=X.out.cell 4 rfl;replace q5:=X.out.cell 5 rfl
 clear hb4 F2
 by_cases he:e=0
 ·subst he
  have F3:=Avp (Ao7 key other item data qty ln A m H.out G.out HN.out HK.out HO.out HI.out HD.out HDL.out)
  go_wp2_with fail
  refine F3.out.mono ?_
  rintro _ w5 ⟨_,rfl,hb5,rfl⟩
  replace B1:=Avp (B1.out.le hb5);replace X:=Avp (X.out.mono hb5);replace Z:=Avp (Z.out.mono hb5);replace H:=Avp (H.out.mono hb5);replace G:=Avp (G.out.mono hb5);replace HD:=Avp (HD.out.mono hb5)
  replace q0:=X.out.cell 0 rfl;replace q1:=X.out.cell 1 rfl;replace q2:=X.out.cell 2 rfl;replace q3:=X.out.cell 3 rfl;replace q4:=X.out.cell 4 rfl;replace q5:=X.out.cell 5 rfl
  clear hb5 F3
  clear q1 q2 q3 q4 q5
  go_wp2_with ((with_reducible refine Ai (N+1) ?_ ?_);(next=>rfl))
  unfold Az
  refine Af (J:=N+1) rfl rfl rfl rfl rfl Z.out (show(Tryz.prog.info? 60).map (·.size)=some 5 by kernel_rfl) rfl (by simp[Value.oneCell']) ?_
  intro w9 hx9 hu9
  have X9:=Avp hx9;have U9:=Avp hu9
  clear hx9 hu9
  clear q0
  go_wp2
  refine bodyPost_ret (v:=.tuple #[.agg #[.int .i64 2,.int .i64 9,.int .i64 0,.slice none 0 0,.slice none 0 0],.int .i64 0]) ?_ rfl ?_
  ·exact Ah Tryz.results80 rfl rfl X9.out Tryz.underlying60 rfl (show(Tryz.prog.info? 60).map (·.size)=some 5 by kernel_rfl)
  have en:=EN.out
  exact⟨⟨_,rfl⟩,Ae (Ak B1.out WB.out) (U9.out.below (by have:=WB.out;omega))⟩
 ·skip
  clear q1 q2 q3 q4 q5
  go_wp2_with ((with_reducible refine Ai (N+1) ?_ ?_);(next=>rfl))
  unfold Az
  refine Af (J:=N+1) rfl rfl rfl rfl rfl Z.out (show(Tryz.prog.info? 60).map (·.size)=some 5 by kernel_rfl) rfl (by simp[Value.oneCell']) ?_
  intro w9 hx9 hu9
  have X9:=Avp hx9;have U9:=Avp hu9
  clear hx9 hu9
  clear q0
  go_wp2
  refine bodyPost_ret (v:=.tuple #[.agg #[.int .i64 2,.int .i64 e,.int .i64 0,.slice none 0 0,.slice none 0 0],.int .i64 0]) ?_ rfl ?_
  ·exact Ah Tryz.results80 rfl rfl X9.out Tryz.underlying60 rfl (show(Tryz.prog.info? 60).map (·.size)=some 5 by kernel_rfl)
  have en:=EN.out
  exact⟨⟨_,rfl⟩,Ae (Ak B1.out WB.out) (U9.out.below (by have:=WB.out;omega))⟩
theorem Au0
  {B:Nat} {w:World} {q:NPl} {n:Int} (key other item data:List UInt8) (qty:Int) (ln:Nat) (A:Option Addr) (m:Nat) (h:FN w q n) (g:Cr w) (hC:q.C≠q.N) (hB:B<=q.N∧B<=q.T∧B<=q.M∧B<=q.O∧B<=q.C∧B<=q.I) (hg:2<B∧1<B) (hn:0<=n∧n<=1000) (hk:key.length<=300) (ho:other.length<=300) (hi:item.length<=300) (hd:Sl encB w A ln m data) (hdl:data.length<=300) (hf:Br ⟨3,key,other,item,qty,data⟩=true)
  :
  Calls Tryz.prog 80 #[.pointer (some ⟨q.N,0,none⟩),.agg #[.int .i64 3,Ac key,Ac other,Ac item,.int .i64 qty,.slice A ln m]] w (DoP B 0 w)
  :=by
 have hln:=hd.len
 obtain⟨w1,hw1⟩:∃ w1,w1=(w.alloc (.cells #[.int .i64 3,Ac key,Ac other,Ac item,.int .i64 qty,.slice A ln m] 25)).alloc (.cells ansZ 60):=⟨_,rfl⟩
 obtain⟨N,hN⟩:∃ N,N=w.heap.size:=⟨_,rfl⟩
 have hb1:Below w.heap.size w w1:=by rw[hw1];go_grown
 have X:=Avp (show Bx w1 N [.int .i64 3,Ac key,Ac other,Ac item,.int .i64 qty,.slice A ln m] by rw[hw1,hN];exact(Bx.new w _ 25).mono (by go_grown))
 have Z:=Avp (show Bx w1 (N+1) ansZ.toList by rw[hw1,hN];have:=Bx.new (w.alloc (.cells #[.int .i64 3,Ac key,Ac other,Ac item,.int .i64 qty,.slice A ln m] 25)) ansZ 60;rw[World.size_alloc] at this;exact this)
 have F0:=Avp (J6 (h.mono hb1).kT)
 have B1:=Avp hb1
 have F1:=Avp (fun w2=>Fg ⟨3,key,other,item,qty,data⟩ A m w2)
 rw[hf] at F1
 unfold Aq at F1
 simp only at F1
 rw[<-hln] at F1
 have H:=Avp (h.mono hb1);have G:=Avp (g.mono hb1);have HN:=Avp hn;have HCN:=Avp hC;have G0:=Avp g
 have HK:=Avp hk;have HI:=Avp hi;have HO:=Avp ho;have HD:=Avp (hd.mono hb1);have HDL:=Avp hdl;have HB:=Avp hB;have HG:=Avp hg;have WS:=Avp h.lts
 have WB:=Avp (show B<=w.heap.size by have:=h.lts;omega)
 have EN:=Avp hN;have HW:=Avp hw1
 clear h hB hf hb1 hw1 g hC hn hk ho hi hd hdl hg hln
 go_enter Tryz.func80,Tryz.ntmps80
 go_wp2_with fail
 rw[<-hN,<-HW.out]
 clear hN HW
 refine F0.out.mono ?_
 rintro _ w2 ⟨_,rfl,hb2,rfl⟩
 replace B1:=Avp (B1.out.le hb2);replace X:=Avp (X.out.mono hb2);replace Z:=Avp (Z.out.mono hb2);replace H:=Avp (H.out.mono hb2);replace G:=Avp (G.out.mono hb2);replace HD:=Avp (HD.out.mono hb2)
 have q0:=X.out.cell 0 rfl;have q1:=X.out.cell 1 rfl;have q2:=X.out.cell 2 rfl;have q3:=X.out.cell 3 rfl;have q4:=X.out.cell 4 rfl;have q5:=X.out.cell 5 rfl
 clear hb2 F0
 go_wp2_with fail
 refine(F1.out _).mono ?_
 rintro _ w3 ⟨_,rfl,hb3,rfl⟩
 replace B1:=Avp (B1.out.le hb3);replace X:=Avp (X.out.mono hb3);replace Z:=Avp (Z.out.mono hb3);replace H:=Avp (H.out.mono hb3);replace G:=Avp (G.out.mono hb3);replace HD:=Avp (HD.out.mono hb3)
 replace q0:=X.out.cell 0 rfl;replace q1:=X.out.cell 1 rfl;replace q2:=X.out.cell 2 rfl;replace q3:=X.out.cell 3 rfl;replace q4:=X.out.cell 4 rfl;replace q5:=X.out.cell 5 rfl
 have F2:=Avp (Anf key other item data qty ln A m H.out G.out HK.out HO.out HI.out HD.out HDL.out)
 clear hb3 F1
 go_wp2_with fail
 refine F2.out.mono ?_
 rintro _ w4 ⟨_,rfl,hb4,e,rfl⟩
 replace B1:=Avp (B1.out.le hb4);replace X:=Avp (X.out.mono hb4);replace Z:=Avp (Z.out.mono hb4);replace H:=Avp (H.out.mono hb4);replace G:=Avp (G.out.mono hb4);replace HD:=Avp (HD.out.mono hb4)
 replace q0:=X.out.cell 0 rfl;replace q1:=X.out.cell 1 rfl;replace q2:=X.out.cell 2 rfl;replace q3:=X.out.cell 3 rfl;replace q4:=X.out.cell 4 rfl;replace q5:=X.out.cell 5 rfl
 clear hb4 F2
 by_cases he:e=0
 ·subst he
  have F3:=Avp (Alu key other item data qty ln A m H.out G.out HN.out HK.out HO.out HI.out HD.out HDL.out)
  go_wp2_with fail
  refine F3.out.mono ?_
  rintro _ w5 ⟨_,rfl,hb5,rfl⟩
  replace B1:=Avp (B1.out.le hb5);replace X:=Avp (X.out.mono hb5);replace Z:=Avp (Z.out.mono hb5);replace H:=Avp (H.out.mono hb5);replace G:=Avp (G.out.mono hb5);replace HD:=Avp (HD.out.mono hb5)
  replace q0:=X.out.cell 0 rfl;replace q1:=X.out.cell 1 rfl;replace q2:=X.out.cell 2 rfl;replace q3:=X.out.cell 3 rfl;replace q4:=X.out.cell 4 rfl;replace q5:=X.out.cell 5 rfl
  clear hb5 F3
  clear q1 q2 q3 q4 q5
  go_wp2_with ((with_reducible refine Ai (N+1) ?_ ?_);(next=>rfl))
  unfold Az
  refine Af (J:=N+1) rfl rfl rfl rfl rfl Z.out (show(Tryz.prog.info? 60).map (·.size)=some 5 by kernel_rfl) rfl (by simp[Value.oneCell']) ?_
  intro w9 hx9 hu9
  have X9:=Avp hx9;have U9:=Avp hu9
  clear hx9 hu9
  clear q0
  go_wp2
  refine bodyPost_ret (v:=.tuple #[.agg #[.int .i64 3,.int .i64 9,.int .i64 0,.slice none 0 0,.slice none 0 0],.int .i64 0]) ?_ rfl ?_
  ·exact Ah Tryz.results80 rfl rfl X9.out Tryz.underlying60 rfl (show(Tryz.prog.info? 60).map (·.size)=some 5 by kernel_rfl)
  have en:=EN.out
  exact⟨⟨_,rfl⟩,Ae (Ak B1.out WB.out) (U9.out.below (by have:=WB.out;omega))⟩
 ·skip
  clear q1 q2 q3 q4 q5
  go_wp2_with ((with_reducible refine Ai (N+1) ?_ ?_);(next=>rfl))
  unfold Az
  refine Af (J:=N+1) rfl rfl rfl rfl rfl Z.out (show(Tryz.prog.info? 60).map (·.size)=some 5 by kernel_rfl) rfl (by simp[Value.oneCell']) ?_
  intro w9 hx9 hu9
  have X9:=Avp hx9;have U9:=Avp hu9
  clear hx9 hu9
  clear q0
  go_wp2
  refine bodyPost_ret (v:=.tuple #[.agg #[.int .i64 3,.int .i64 e,.int .i64 0,.slice none 0 0,.slice none 0 0],.int .i64 0]) ?_ rfl ?_
  ·exact Ah Tryz.results80 rfl rfl X9.out Tryz.underlying60 rfl (show(Tryz.prog.info? 60).map (·.size)=some 5 by kernel_rfl)
  have en:=EN.out
  exact⟨⟨_,rfl⟩,Ae (Ak B1.out WB.out) (U9.out.below (by have:=WB.out;omega))⟩
theorem Avj
  {B:Nat} {w:World} {q:NPl} {n:Int} (key other item data:List UInt8) (qty:Int) (ln:Nat) (A:Option Addr) (m:Nat) (h:FN w q n) (g:Cr w) (hC:q.C≠q.N) (hB:B<=q.N∧B<=q.T∧B<=q.M∧B<=q.O∧B<=q.C∧B<=q.I) (hg:2<B∧1<B) (hn:0<=n∧n<=1000) (hk:key.length<=300) (ho:other.length<=300) (hi:item.length<=300) (hd:Sl encB w A ln m data) (hdl:data.length<=300) (hf:Br ⟨6,key,other,item,qty,data⟩=true)
  :
  Calls Tryz.prog 80 #[.pointer (some ⟨q.N,0,none⟩),.agg #[.int .i64 6,Ac key,Ac other,Ac item,.int .i64 qty,.slice A ln m]] w (DoP B 0 w)
  :=by
 have hln:=hd.len
 obtain⟨w1,hw1⟩:∃ w1,w1=(w.alloc (.cells #[.int .i64 6,Ac key,Ac other,Ac item,.int .i64 qty,.slice A ln m] 25)).alloc (.cells ansZ 60):=⟨_,rfl⟩
 obtain⟨N,hN⟩:∃ N,N=w.heap.size:=⟨_,rfl⟩
 have hb1:Below w.heap.size w w1:=by rw[hw1];go_grown
 have X:=Avp (show Bx w1 N [.int .i64 6,Ac key,Ac other,Ac item,.int .i64 qty,.slice A ln m] by rw[hw1,hN];exact(Bx.new w _ 25).mono (by go_grown))
 have Z:=Avp (show Bx w1 (N+1) ansZ.toList by rw[hw1,hN];have:=Bx.new (w.alloc (.cells #[.int .i64 6,Ac key,Ac other,Ac item,.int .i64 qty,.slice A ln m] 25)) ansZ 60;rw[World.size_alloc] at this;exact this)
 have F0:=Avp (J6 (h.mono hb1).kT)
 have B1:=Avp hb1
 have F1:=Avp (fun w2=>Fg ⟨6,key,other,item,qty,data⟩ A m w2)
 rw[hf] at F1
 unfold Aq at F1
 simp only at F1
 rw[<-hln] at F1
 have H:=Avp (h.mono hb1);have G:=Avp (g.mono hb1);have HN:=Avp hn;have HCN:=Avp hC;have G0:=Avp g
 have HK:=Avp hk;have HI:=Avp hi;have HO:=Avp ho;have HD:=Avp (hd.mono hb1);have HDL:=Avp hdl;have HB:=Avp hB;have HG:=Avp hg;have WS:=Avp h.lts
 have WB:=Avp (show B<=w.heap.size by have:=h.lts;omega)
 have EN:=Avp hN;have HW:=Avp hw1
 clear h hB hf hb1 hw1 g hC hn hk ho hi hd hdl hg hln
 go_enter Tryz.func80,Tryz.ntmps80
 go_wp2_with fail
 rw[<-hN,<-HW.out]
 clear hN HW
 refine F0.out.mono ?_
 rintro _ w2 ⟨_,rfl,hb2,rfl⟩
 replace B1:=Avp (B1.out.le hb2);replace X:=Avp (X.out.mono hb2);replace Z:=Avp (Z.out.mono hb2);replace H:=Avp (H.out.mono hb2);replace G:=Avp (G.out.mono hb2);replace HD:=Avp (HD.out.mono hb2)
 have q0:=X.out.cell 0 rfl;have q1:=X.out.cell 1 rfl;have q2:=X.out.cell 2 rfl;have q3:=X.out.cell 3 rfl;have q4:=X.out.cell 4 rfl;have q5:=X.out.cell 5 rfl
 clear hb2 F0
 go_wp2_with fail
 refine(F1.out _).mono ?_
 rintro _ w3 ⟨_,rfl,hb3,rfl⟩
 replace B1:=Avp (B1.out.le hb3);replace X:=Avp (X.out.mono hb3);replace Z:=Avp (Z.out.mono hb3);replace H:=Avp (H.out.mono hb3);replace G:=Avp (G.out.mono hb3);replace HD:=Avp (HD.out.mono hb3)
 replace q0:=X.out.cell 0 rfl;replace q1:=X.out.cell 1 rfl;replace q2:=X.out.cell 2 rfl;replace q3:=X.out.cell 3 rfl;replace q4:=X.out.cell 4 rfl;replace q5:=X.out.cell 5 rfl
 have F2:=Avp (An9 key other item data qty ln A m H.out G.out HK.out HO.out HI.out HD.out HDL.out)
 clear hb3 F1
 go_wp2_with fail
 refine F2.out.mono ?_
 rintro _ w4 ⟨_,rfl,hb4,e,rfl⟩
 replace B1:=Avp (B1.out.le hb4);replace X:=Avp (X.out.mono hb4);replace Z:=Avp (Z.out.mono hb4);replace H:=Avp (H.out.mono hb4);replace G:=Avp (G.out.mono hb4);replace HD:=Avp (HD.out.mono hb4)
 replace q0:=X.out.cell 0 rfl;replace q1:=X.out.cell 1 rfl;replace q2:=X.out.cell 2 rfl;replace q3:=X.out.cell 3 rfl;replace q4:=X.out.cell 4 rfl;replace q5:=X.out.cell 5 rfl
 clear hb4 F2
 by_cases he:e=0
 ·subst he
  have F3:=Avp (Alg key other item data qty ln A m H.out G.out HN.out HK.out HO.out HI.out HD.out HDL.out)
  go_wp2_with fail
  refine F3.out.mono ?_
  rintro _ w5 ⟨_,rfl,hb5,rfl⟩
  replace B1:=Avp (B1.out.le hb5);replace X:=Avp (X.out.mono hb5);replace Z:=Avp (Z.out.mono hb5);replace H:=Avp (H.out.mono hb5);replace G:=Avp (G.out.mono hb5);replace HD:=Avp (HD.out.mono hb5)
  replace q0:=X.out.cell 0 rfl;replace q1:=X.out.cell 1 rfl;replace q2:=X.out.cell 2 rfl;replace q3:=X.out.cell 3 rfl;replace q4:=X.out.cell 4 rfl;replace q5:=X.out.cell 5 rfl
  clear hb5 F3
  clear q1 q2 q3 q4 q5
  go_wp2_with ((with_reducible refine Ai (N+1) ?_ ?_);(next=>rfl))
  unfold Az
  refine Af (J:=N+1) rfl rfl rfl rfl rfl Z.out (show(Tryz.prog.info? 60).map (·.size)=some 5 by kernel_rfl) rfl (by simp[Value.oneCell']) ?_
  intro w9 hx9 hu9
  have X9:=Avp hx9;have U9:=Avp hu9
  clear hx9 hu9
  clear q0
  go_wp2
  refine bodyPost_ret (v:=.tuple #[.agg #[.int .i64 6,.int .i64 9,.int .i64 0,.slice none 0 0,.slice none 0 0],.int .i64 0]) ?_ rfl ?_
  ·exact Ah Tryz.results80 rfl rfl X9.out Tryz.underlying60 rfl (show(Tryz.prog.info? 60).map (·.size)=some 5 by kernel_rfl)
  have en:=EN.out
  exact⟨⟨_,rfl⟩,Ae (Ak B1.out WB.out) (U9.out.below (by have:=WB.out;omega))⟩
 ·skip
  clear q1 q2 q3 q4 q5
  go_wp2_with ((with_reducible refine Ai (N+1) ?_ ?_);(next=>rfl))
  unfold Az
  refine Af (J:=N+1) rfl rfl rfl rfl rfl Z.out (show(Tryz.prog.info? 60).map (·.size)=some 5 by kernel_rfl) rfl (by simp[Value.oneCell']) ?_
  intro w9 hx9 hu9
  have X9:=Avp hx9;have U9:=Avp hu9
  clear hx9 hu9
  clear q0
  go_wp2
  refine bodyPost_ret (v:=.tuple #[.agg #[.int .i64 6,.int .i64 e,.int .i64 0,.slice none 0 0,.slice none 0 0],.int .i64 0]) ?_ rfl ?_
  ·exact Ah Tryz.results80 rfl rfl X9.out Tryz.underlying60 rfl (show(Tryz.prog.info? 60).map (·.size)=some 5 by kernel_rfl)
  have en:=EN.out
  exact⟨⟨_,rfl⟩,Ae (Ak B1.out WB.out) (U9.out.below (by have:=WB.out;omega))⟩
theorem Au5
  {B:Nat} {w:World} {q:NPl} {n:Int} (key other item data:List UInt8) (qty:Int) (ln:Nat) (A:Option Addr) (m:Nat) (h:FN w q n) (g:Cr w) (hC:q.C≠q.N) (hB:B<=q.N∧B<=q.T∧B<=q.M∧B<=q.O∧B<=q.C∧B<=q.I) (hg:2<B∧1<B) (hn:0<=n∧n<=1000) (hk:key.length<=300) (ho:other.length<=300) (hi:item.length<=300) (hd:Sl encB w A ln m data) (hdl:data.length<=300) (hf:Br ⟨4,key,other,item,qty,data⟩=true)
  :
  Calls Tryz.prog 80 #[.pointer (some ⟨q.N,0,none⟩),.agg #[.int .i64 4,Ac key,Ac other,Ac item,.int .i64 qty,.slice A ln m]] w (DoP B 0 w)
  :=by
 have hln:=hd.len
 obtain⟨w1,hw1⟩:∃ w1,w1=(w.alloc (.cells #[.int .i64 4,Ac key,Ac other,Ac item,.int .i64 qty,.slice A ln m] 25)).alloc (.cells ansZ 60):=⟨_,rfl⟩
 obtain⟨N,hN⟩:∃ N,N=w.heap.size:=⟨_,rfl⟩
 have hb1:Below w.heap.size w w1:=by rw[hw1];go_grown
 have X:=Avp (show Bx w1 N [.int .i64 4,Ac key,Ac other,Ac item,.int .i64 qty,.slice A ln m] by rw[hw1,hN];exact(Bx.new w _ 25).mono (by go_grown))
 have Z:=Avp (show Bx w1 (N+1) ansZ.toList by rw[hw1,hN];have:=Bx.new (w.alloc (.cells #[.int .i64 4,Ac key,Ac other,Ac item,.int .i64 qty,.slice A ln m] 25)) ansZ 60;rw[World.size_alloc] at this;exact this)
 have F0:=Avp (J6 (h.mono hb1).kT)
 have B1:=Avp hb1
 have F1:=Avp (fun w2=>Fg ⟨4,key,other,item,qty,data⟩ A m w2)
 rw[hf] at F1
 unfold Aq at F1
 simp only at F1
 rw[<-hln] at F1
 have H:=Avp (h.mono hb1);have G:=Avp (g.mono hb1);have HN:=Avp hn;have HCN:=Avp hC;have G0:=Avp g
 have HK:=Avp hk;have HI:=Avp hi;have HO:=Avp ho;have HD:=Avp (hd.mono hb1);have HDL:=Avp hdl;have HB:=Avp hB;have HG:=Avp hg;have WS:=Avp h.lts
 have WB:=Avp (show B<=w.heap.size by have:=h.lts;omega)
 have EN:=Avp hN;have HW:=Avp hw1
 clear h hB hf hb1 hw1 g hC hn hk ho hi hd hdl hg hln
 go_enter Tryz.func80,Tryz.ntmps80
 go_wp2_with fail
 rw[<-hN,<-HW.out]
 clear hN HW
 refine F0.out.mono ?_
 rintro _ w2 ⟨_,rfl,hb2,rfl⟩
 replace B1:=Avp (B1.out.le hb2);replace X:=Avp (X.out.mono hb2);replace Z:=Avp (Z.out.mono hb2);replace H:=Avp (H.out.mono hb2);replace G:=Avp (G.out.mono hb2);replace HD:=Avp (HD.out.mono hb2)
 have q0:=X.out.cell 0 rfl;have q1:=X.out.cell 1 rfl;have q2:=X.out.cell 2 rfl;have q3:=X.out.cell 3 rfl;have q4:=X.out.cell 4 rfl;have q5:=X.out.cell 5 rfl
 clear hb2 F0
 go_wp2_with fail
 refine(F1.out _).mono ?_
 rintro _ w3 ⟨_,rfl,hb3,rfl⟩
 replace B1:=Avp (B1.out.le hb3);replace X:=Avp (X.out.mono hb3);replace Z:=Avp (Z.out.mono hb3);replace H:=Avp (H.out.mono hb3);replace G:=Avp (G.out.mono hb3);replace HD:=Avp (HD.out.mono hb3)
 replace q0:=X.out.cell 0 rfl;replace q1:=X.out.cell 1 rfl;replace q2:=X.out.cell 2 rfl;replace q3:=X.out.cell 3 rfl;replace q4:=X.out.cell 4 rfl;replace q5:=X.out.cell 5 rfl
 have F2:=Avp (Amz key other item data qty ln A m H.out G.out HK.out HO.out HI.out HD.out HDL.out)
 clear hb3 F1
 go_wp2_with fail
 refine F2.out.mono ?_
 rintro _ w4 ⟨_,rfl,hb4,e,rfl⟩
 replace B1:=Avp (B1.out.le hb4);replace X:=Avp (X.out.mono hb4);replace Z:=Avp (Z.out.mono hb4);replace H:=Avp (H.out.mono hb4);replace G:=Avp (G.out.mono hb4);replace HD:=Avp (HD.out.mono hb4)
 replace q0:=X.out.cell 0 rfl;replace q1:=X.out.cell 1 rfl;replace q2:=X.out.cell 2 rfl;replace q3:=X.out.cell 3 rfl;replace q4:=X.out.cell 4 rfl;replace q5:=X.out.cell 5 rfl
 clear hb4 F2
 by_cases he:e=0
 ·subst he
  have F3:=Avp (Alb key other item data qty ln A m H.out G.out HN.out HK.out HO.out HI.out HD.out HDL.out)
  go_wp2_with fail
  refine F3.out.mono ?_
  rintro _ w5 ⟨_,rfl,hb5,rfl⟩
  replace B1:=Avp (B1.out.le hb5);replace X:=Avp (X.out.mono hb5);replace Z:=Avp (Z.out.mono hb5);replace H:=Avp (H.out.mono hb5);replace G:=Avp (G.out.mono hb5);replace HD:=Avp (HD.out.mono hb5)
  replace q0:=X.out.cell 0 rfl;replace q1:=X.out.cell 1 rfl;replace q2:=X.out.cell 2 rfl;replace q3:=X.out.cell 3 rfl;replace q4:=X.out.cell 4 rfl;replace q5:=X.out.cell 5 rfl
  clear hb5 F3
  have hb6:Below w5.heap.size w5 (w5.alloc (.cells #[.int .i64 4,.int .i64 0,.int .i64 0,.slice none 0 0,.slice none 0 0] 60)):=by go_grown
  have Y:=Avp (Bx.new w5 #[.int .i64 4,.int .i64 0,.int .i64 0,.slice none 0 0,.slice none 0 0] 60)
  have L5:=Avp (show w.heap.size<=w5.heap.size∧N+1<w5.heap.size from⟨B1.out.size,Z.out.lt⟩)
  replace B1:=Avp (B1.out.le hb6);replace X:=Avp (X.out.mono hb6);replace Z:=Avp (Z.out.mono hb6);replace H:=Avp (H.out.mono hb6);replace G:=Avp (G.out.mono hb6);replace HD:=Avp (HD.out.mono hb6)
  obtain⟨J,hJ⟩:∃ J,J=w5.heap.size:=⟨_,rfl⟩
  obtain⟨w6,hw6⟩:∃ w6,w6=w5.alloc (.cells #[.int .i64 4,.int .i64 0,.int .i64 0,.slice none 0 0,.slice none 0 0] 60):=⟨_,rfl⟩
  rw[<-hw6] at Y X Z H G HD B1
  rw[<-hJ] at Y
  have JL:=Avp (show w.heap.size<=J∧N+1<J by rw[hJ];exact L5.out)
  have lt0:N<w5.heap.size:=by have:=L5.out;omega
  have HW6:=Avp hw6;have HJ:=Avp hJ
  clear hb6 hw6 hJ L5
  have F4:=Avp (Hq key H.out G.out (by have:=HK.out;omega))
  go_wp2_with fail
  rw[<-HJ.out,<-HW6.out]
  clear lt0 HW6 HJ
  replace q0:=X.out.cell 0 rfl;replace q1:=X.out.cell 1 rfl;replace q2:=X.out.cell 2 rfl;replace q3:=X.out.cell 3 rfl;replace q4:=X.out.cell 4 rfl;replace q5:=X.out.cell 5 rfl
  refine F4.out.mono ?_
  rintro _ w7 ⟨_,rfl,hb7,p,rfl,hp⟩
  replace B1:=Avp (B1.out.le hb7);replace X:=Avp (X.out.mono hb7);replace Z:=Avp (Z.out.mono hb7);replace H:=Avp (H.out.mono hb7);replace G:=Avp (G.out.mono hb7);replace HD:=Avp (HD.out.mono hb7)
  replace Y:=Avp (Y.out.mono hb7)
  have F5:=Avp (Ahy hp.at_ G.out.nm.ok)
  clear hb7 hp F4 q0 q1 q2 q3 q4 q5
  go_wp2_with fail
  refine F5.out.mono ?_
  rintro _ w8 ⟨_,rfl,hb8,rfl⟩
  replace B1:=Avp (B1.out.le hb8);replace X:=Avp (X.out.mono hb8);replace Z:=Avp (Z.out.mono hb8);replace H:=Avp (H.out.mono hb8);replace G:=Avp (G.out.mono hb8);replace HD:=Avp (HD.out.mono hb8)
  replace Y:=Avp (Y.out.mono hb8)
  have y0:=Y.out.cell 0 rfl;have y1:=Y.out.cell 1 rfl;have y2:=Y.out.cell 2 rfl;have y3:=Y.out.cell 3 rfl;have y4:=Y.out.cell 4 rfl
  have f2:=Y.out.fr 2 (by simp);have f3:=Y.out.fr 3 (by simp)
  obtain⟨yy,uy⟩:=Y.out.one (j:=3) (v:=.slice none 0 0) (by simp)
  obtain⟨yy2,uy2⟩:=yy.one (j:=2) (v:=.int .i64 0) (by simp)
  have jl:=JL.out
  have ZZ:=Avp (uy2.bx (uy.bx Z.out (by omega)) (by omega))
  have BB:=Avp (Ae B1.out (Ae (uy.below jl.1) (uy2.below jl.1)))
  clear hb8 F5 yy uy yy2 uy2 jl
  go_wp2_with ((with_reducible refine Ai (N+1) ?_ ?_);(next=>rfl))
  unfold Az
  refine Af (J:=N+1) rfl rfl rfl rfl rfl ZZ.out (show(Tryz.prog.info? 60).map (·.size)=some 5 by kernel_rfl) rfl (by simp[Value.oneCell']) ?_
  intro w9 hx9 hu9
  have X9:=Avp hx9;have U9:=Avp hu9
  clear hx9 hu9
  go_wp2
  refine bodyPost_ret (v:=.tuple #[.agg #[.int .i64 4,.int .i64 0,.int .i64 0,.slice none 0 0,.slice none 0 0],.int .i64 0]) ?_ rfl ?_
  ·exact Ah Tryz.results80 rfl rfl X9.out Tryz.underlying60 rfl (show(Tryz.prog.info? 60).map (·.size)=some 5 by kernel_rfl)
  have en:=EN.out
  exact⟨⟨_,rfl⟩,Ae (Ak BB.out WB.out) (U9.out.below (by have:=WB.out;omega))⟩
 ·skip
  clear q1 q2 q3 q4 q5
  go_wp2_with ((with_reducible refine Ai (N+1) ?_ ?_);(next=>rfl))
  unfold Az
  refine Af (J:=N+1) rfl rfl rfl rfl rfl Z.out (show(Tryz.prog.info? 60).map (·.size)=some 5 by kernel_rfl) rfl (by simp[Value.oneCell']) ?_
  intro w9 hx9 hu9
  have X9:=Avp hx9;have U9:=Avp hu9
  clear hx9 hu9
  clear q0
  go_wp2
  refine bodyPost_ret (v:=.tuple #[.agg #[.int .i64 4,.int .i64 e,.int .i64 0,.slice none 0 0,.slice none 0 0],.int .i64 0]) ?_ rfl ?_
  ·exact Ah Tryz.results80 rfl rfl X9.out Tryz.underlying60 rfl (show(Tryz.prog.info? 60).map (·.size)=some 5 by kernel_rfl)
  have en:=EN.out
  exact⟨⟨_,rfl⟩,Ae (Ak B1.out WB.out) (U9.out.below (by have:=WB.out;omega))⟩
theorem Au8
  {B:Nat} {w:World} {q:NPl} {n:Int} (key other item data:List UInt8) (qty:Int) (ln:Nat) (A:Option Addr) (m:Nat) (h:FN w q n) (g:Cr w) (hC:q.C≠q.N) (hB:B<=q.N∧B<=q.T∧B<=q.M∧B<=q.O∧B<=q.C∧B<=q.I) (hg:2<B∧1<B) (hn:0<=n∧n<=1000) (hk:key.length<=300) (ho:other.length<=300) (hi:item.length<=300) (hd:Sl encB w A ln m data) (hdl:data.length<=300) (hf:Br ⟨1,key,other,item,qty,data⟩=true)
  :
  Calls Tryz.prog 80 #[.pointer (some ⟨q.N,0,none⟩),.agg #[.int .i64 1,Ac key,Ac other,Ac item,.int .i64 qty,.slice A ln m]] w (DoP B 0 w)
  :=by
 have hln:=hd.len
 obtain⟨w1,hw1⟩:∃ w1,w1=(w.alloc (.cells #[.int .i64 1,Ac key,Ac other,Ac item,.int .i64 qty,.slice A ln m] 25)).alloc (.cells ansZ 60):=⟨_,rfl⟩
 obtain⟨N,hN⟩:∃ N,N=w.heap.size:=⟨_,rfl⟩
 have hb1:Below w.heap.size w w1:=by rw[hw1];go_grown
 have X:=Avp (show Bx w1 N [.int .i64 1,Ac key,Ac other,Ac item,.int .i64 qty,.slice A ln m] by rw[hw1,hN];exact(Bx.new w _ 25).mono (by go_grown))
 have Z:=Avp (show Bx w1 (N+1) ansZ.toList by rw[hw1,hN];have:=Bx.new (w.alloc (.cells #[.int .i64 1,Ac key,Ac other,Ac item,.int .i64 qty,.slice A ln m] 25)) ansZ 60;rw[World.size_alloc] at this;exact this)
 have F0:=Avp (J6 (h.mono hb1).kT)
 have B1:=Avp hb1
 have F1:=Avp (fun w2=>Fg ⟨1,key,other,item,qty,data⟩ A m w2)
 rw[hf] at F1
 unfold Aq at F1
 simp only at F1
 rw[<-hln] at F1
 have H:=Avp (h.mono hb1);have G:=Avp (g.mono hb1);have HN:=Avp hn;have HCN:=Avp hC;have G0:=Avp g
 have HK:=Avp hk;have HI:=Avp hi;have HO:=Avp ho;have HD:=Avp (hd.mono hb1);have HDL:=Avp hdl;have HB:=Avp hB;have HG:=Avp hg;have WS:=Avp h.lts
 have WB:=Avp (show B<=w.heap.size by have:=h.lts;omega)
 have EN:=Avp hN;have HW:=Avp hw1
 clear h hB hf hb1 hw1 g hC hn hk ho hi hd hdl hg hln
 go_enter Tryz.func80,Tryz.ntmps80
 go_wp2_with fail
 rw[<-hN,<-HW.out]
 clear hN HW
 refine F0.out.mono ?_
 rintro _ w2 ⟨_,rfl,hb2,rfl⟩
 replace B1:=Avp (B1.out.le hb2);replace X:=Avp (X.out.mono hb2);replace Z:=Avp (Z.out.mono hb2);replace H:=Avp (H.out.mono hb2);replace G:=Avp (G.out.mono hb2);replace HD:=Avp (HD.out.mono hb2)
 have q0:=X.out.cell 0 rfl;have q1:=X.out.cell 1 rfl;have q2:=X.out.cell 2 rfl;have q3:=X.out.cell 3 rfl;have q4:=X.out.cell 4 rfl;have q5:=X.out.cell 5 rfl
 clear hb2 F0
 go_wp2_with fail
 refine(F1.out _).mono ?_
 rintro _ w3 ⟨_,rfl,hb3,rfl⟩
 replace B1:=Avp (B1.out.le hb3);replace X:=Avp (X.out.mono hb3);replace Z:=Avp (Z.out.mono hb3);replace H:=Avp (H.out.mono hb3);replace G:=Avp (G.out.mono hb3);replace HD:=Avp (HD.out.mono hb3)
 replace q0:=X.out.cell 0 rfl;replace q1:=X.out.cell 1 rfl;replace q2:=X.out.cell 2 rfl;replace q3:=X.out.cell 3 rfl;replace q4:=X.out.cell 4 rfl;replace q5:=X.out.cell 5 rfl
 have F2:=Avp (Amh key other item data qty ln A m H.out G.out HK.out HO.out HI.out HD.out HDL.out)
 clear hb3 F1
 go_wp2_with fail
 refine F2.out.mono ?_
 rintro _ w4 ⟨_,rfl,hb4,e,rfl⟩
 replace B1:=Avp (B1.out.le hb4);replace X:=Avp (X.out.mono hb4);replace Z:=Avp (Z.out.mono hb4);replace H:=Avp (H.out.mono hb4);replace G:=Avp (G.out.mono hb4);replace HD:=Avp (HD.out.mono hb4)
 replace q0:=X.out.cell 0 rfl;replace q1:=X.out.cell 1 rfl;replace q2:=X.out.cell 2 rfl;replace q3:=X.out.cell 3 rfl;replace q4:=X.out.cell 4 rfl;replace q5:=X.out.cell 5 rfl
 clear hb4 F2
 by_cases he:e=0
 ·subst he
  have F3:=Avp (Ao6 key other item data qty ln A m H.out G.out HN.out HK.out HO.out HI.out HD.out HDL.out)
  go_wp2_with fail
  refine F3.out.mono ?_
  rintro _ w5 ⟨_,rfl,hb5,e2,rfl⟩
  replace B1:=Avp (B1.out.le hb5);replace X:=Avp (X.out.mono hb5);replace Z:=Avp (Z.out.mono hb5);replace H:=Avp (H.out.mono hb5);replace G:=Avp (G.out.mono hb5);replace HD:=Avp (HD.out.mono hb5)
  replace q0:=X.out.cell 0 rfl;replace q1:=X.out.cell 1 rfl;replace q2:=X.out.cell 2 rfl;replace q3:=X.out.cell 3 rfl;replace q4:=X.out.cell 4 rfl;replace q5:=X.out.cell 5 rfl
  clear hb5 F3
  by_cases he2:e2=0
  ·subst he2
   have hb6:Below w5.heap.size w5 (w5.alloc (.cells #[.int .i64 1,.int .i64 0,.int .i64 0,.slice none 0 0,.slice none 0 0] 60)):=by go_grown
   have Y:=Avp (Bx.new w5 #[.int .i64 1,.int .i64 0,.int .i64 0,.slice none 0 0,.slice none 0 0] 60)
   have L5:=Avp (show w.heap.size<=w5.heap.size∧N+1<w5.heap.size from⟨B1.out.size,Z.out.lt⟩)
   replace B1:=Avp (B1.out.le hb6);replace X:=Avp (X.out.mono hb6);replace Z:=Avp (Z.out.mono hb6);replace H:=Avp (H.out.mono hb6);replace G:=Avp (G.out.mono hb6);replace HD:=Avp (HD.out.mono hb6)
   obtain⟨J,hJ⟩:∃ J,J=w5.heap.size:=⟨_,rfl⟩
   obtain⟨w6,hw6⟩:∃ w6,w6=w5.alloc (.cells #[.int .i64 1,.int .i64 0,.int .i64 0,.slice none 0 0,.slice none 0 0] 60):=⟨_,rfl⟩
   rw[<-hw6] at Y X Z H G HD B1
   rw[<-hJ] at Y
   have JL:=Avp (show w.heap.size<=J∧N+1<J by rw[hJ];exact L5.out)
   have lt0:N<w5.heap.size:=by have:=L5.out;omega
   have HW6:=Avp hw6;have HJ:=Avp hJ
   clear hb6 hw6 hJ L5
   have F4:=Avp (Aut (B:=B) key other item qty ln A m H.out G.out HCN.out (by have:=HB.out;omega) HG.out HN.out HK.out HI.out)
   go_wp2_with fail
   rw[<-HJ.out,<-HW6.out]
   clear lt0 HW6 HJ
   refine F4.out.mono ?_
   rintro _ w7 ⟨⟨k7,rfl⟩,hk7⟩
   have BX:=Avp (Ae (Ak B1.out WB.out) (hk7.below (by have:=WB.out;have:=B1.out.size;omega) HB.out))
   replace Y:=Avp (hk7.bx Y.out (by have:=WS.out;have:=JL.out;omega))
   replace Z:=Avp (hk7.bx Z.out (by have:=WS.out;have:=EN.out;omega))
   clear hk7 F4 q0 q1 q2 q3 q4 q5
   have y0:=Y.out.cell 0 rfl;have y1:=Y.out.cell 1 rfl;have y2:=Y.out.cell 2 rfl;have y3:=Y.out.cell 3 rfl;have y4:=Y.out.cell 4 rfl
   have f2:=Y.out.fr 2 (by simp)
   obtain⟨yy,uy⟩:=Y.out.one (j:=2) (v:=.int .i64 k7) (by simp)
   have jl:=JL.out
   have ZZ:=Avp (uy.bx Z.out (by omega))
   have BB:=Avp (Ae BX.out (uy.below (by have:=WB.out;omega)))
   clear yy uy jl
   go_wp2_with ((with_reducible refine Ai (N+1) ?_ ?_);(next=>rfl))
   unfold Az
   refine Af (J:=N+1) rfl rfl rfl rfl rfl ZZ.out (show(Tryz.prog.info? 60).map (·.size)=some 5 by kernel_rfl) rfl (by simp[Value.oneCell']) ?_
   intro w9 hx9 hu9
   have X9:=Avp hx9;have U9:=Avp hu9
   clear hx9 hu9
   go_wp2
   refine bodyPost_ret (v:=.tuple #[.agg #[.int .i64 1,.int .i64 0,.int .i64 k7,.slice none 0 0,.slice none 0 0],.int .i64 0]) ?_ rfl ?_
   ·exact Ah Tryz.results80 rfl rfl X9.out Tryz.underlying60 rfl (show(Tryz.prog.info? 60).map (·.size)=some 5 by kernel_rfl)
   have en:=EN.out
   exact⟨⟨_,rfl⟩,Ae BB.out (U9.out.below (by have:=WB.out;omega))⟩
  ·skip
   clear q1 q2 q3 q4 q5
   go_wp2_with ((with_reducible refine Ai (N+1) ?_ ?_);(next=>rfl))
   unfold Az
   refine Af (J:=N+1) rfl rfl rfl rfl rfl Z.out (show(Tryz.prog.info? 60).map (·.size)=some 5 by kernel_rfl) rfl (by simp[Value.oneCell']) ?_
   intro w9 hx9 hu9
   have X9:=Avp hx9;have U9:=Avp hu9
   clear hx9 hu9
   clear q0
   go_wp2
   refine bodyPost_ret (v:=.tuple #[.agg #[.int .i64 1,.int .i64 e2,.int .i64 0,.slice none 0 0,.slice none 0 0],.int .i64 0]) ?_ rfl ?_
   ·exact Ah Tryz.results80 rfl rfl X9.out Tryz.underlying60 rfl (show(Tryz.prog.info? 60).map (·.size)=some 5 by kernel_rfl)
   have en:=EN.out
   exact⟨⟨_,rfl⟩,Ae (Ak B1.out WB.out) (U9.out.below (by have:=WB.out;omega))⟩
 ·skip
  clear q1 q2 q3 q4 q5
  go_wp2_with ((with_reducible refine Ai (N+1) ?_ ?_);(next=>rfl))
  unfold Az
  refine Af (J:=N+1) rfl rfl rfl rfl rfl Z.out (show(Tryz.prog.info? 60).map (·.size)=some 5 by kernel_rfl) rfl (by simp[Value.oneCell']) ?_
  intro w9 hx9 hu9
  have X9:=Avp hx9;have U9:=Avp hu9
  clear hx9 hu9
  clear q0
  go_wp2
  refine bodyPost_ret (v:=.tuple #[.agg #[.int .i64 1,.int .i64 e,.int .i64 0,.slice none 0 0,.slice none 0 0],.int .i64 0]) ?_ rfl ?_
  ·exact Ah Tryz.results80 rfl rfl X9.out Tryz.underlying60 rfl (show(Tryz.prog.info? 60).map (·.size)=some 5 by kernel_rfl)
  have en:=EN.out
  exact⟨⟨_,rfl⟩,Ae (Ak B1.out WB.out) (U9.out.below (by have:=WB.out;omega))⟩
theorem Auu
  {B:Nat} {w:World} {q:NPl} {n:Int} (key other item data:List UInt8) (qty:Int) (ln:Nat) (A:Option Addr) (m:Nat) (h:FN w q n) (g:Cr w) (hC:q.C≠q.N) (hB:B<=q.N∧B<=q.T∧B<=q.M∧B<=q.O∧B<=q.C∧B<=q.I) (hg:2<B∧1<B) (hn:0<=n∧n<=1000) (hk:key.length<=300) (ho:other.length<=300) (hi:item.length<=300) (hd:Sl encB w A ln m data) (hdl:data.length<=300) (hf:Br ⟨5,key,other,item,qty,data⟩=true)
  :
  Calls Tryz.prog 80 #[.pointer (some ⟨q.N,0,none⟩),.agg #[.int .i64 5,Ac key,Ac other,Ac item,.int .i64 qty,.slice A ln m]] w (DoP B 0 w)
  :=by
 have hln:=hd.len
 obtain⟨w1,hw1⟩:∃ w1,w1=(w.alloc (.cells #[.int .i64 5,Ac key,Ac other,Ac item,.int .i64 qty,.slice A ln m] 25)).alloc (.cells ansZ 60):=⟨_,rfl⟩
 obtain⟨N,hN⟩:∃ N,N=w.heap.size:=⟨_,rfl⟩
 have hb1:Below w.heap.size w w1:=by rw[hw1];go_grown
 have X:=Avp (show Bx w1 N [.int .i64 5,Ac key,Ac other,Ac item,.int .i64 qty,.slice A ln m] by rw[hw1,hN];exact(Bx.new w _ 25).mono (by go_grown))
 have Z:=Avp (show Bx w1 (N+1) ansZ.toList by rw[hw1,hN];have:=Bx.new (w.alloc (.cells #[.int .i64 5,Ac key,Ac other,Ac item,.int .i64 qty,.slice A ln m] 25)) ansZ 60;rw[World.size_alloc] at this;exact this)
 have F0:=Avp (J6 (h.mono hb1).kT)
 have B1:=Avp hb1
 have F1:=Avp (fun w2=>Fg ⟨5,key,other,item,qty,data⟩ A m w2)
 rw[hf] at F1
 unfold Aq at F1
 simp only at F1
 rw[<-hln] at F1
 have H:=Avp (h.mono hb1);have G:=Avp (g.mono hb1);have HN:=Avp hn;have HCN:=Avp hC;have G0:=Avp g
 have HK:=Avp hk;have HI:=Avp hi;have HO:=Avp ho;have HD:=Avp (hd.mono hb1);have HDL:=Avp hdl;have HB:=Avp hB;have HG:=Avp hg;have WS:=Avp h.lts
 have WB:=Avp (show B<=w.heap.size by have:=h.lts;omega)
 have EN:=Avp hN;have HW:=Avp hw1
 clear h hB hf hb1 hw1 g hC hn hk ho hi hd hdl hg hln
 go_enter Tryz.func80,Tryz.ntmps80
 go_wp2_with fail
 rw[<-hN,<-HW.out]
 clear hN HW
 refine F0.out.mono ?_
 rintro _ w2 ⟨_,rfl,hb2,rfl⟩
 replace B1:=Avp (B1.out.le hb2);replace X:=Avp (X.out.mono hb2);replace Z:=Avp (Z.out.mono hb2);replace H:=Avp (H.out.mono hb2);replace G:=Avp (G.out.mono hb2);replace HD:=Avp (HD.out.mono hb2)
 have q0:=X.out.cell 0 rfl;have q1:=X.out.cell 1 rfl;have q2:=X.out.cell 2 rfl;have q3:=X.out.cell 3 rfl;have q4:=X.out.cell 4 rfl;have q5:=X.out.cell 5 rfl
 clear hb2 F0
 go_wp2_with fail
 refine(F1.out _).mono ?_
 rintro _ w3 ⟨_,rfl,hb3,rfl⟩
 replace B1:=Avp (B1.out.le hb3);replace X:=Avp (X.out.mono hb3);replace Z:=Avp (Z.out.mono hb3);replace H:=Avp (H.out.mono hb3);replace G:=Avp (G.out.mono hb3);replace HD:=Avp (HD.out.mono hb3)
 replace q0:=X.out.cell 0 rfl;replace q1:=X.out.cell 1 rfl;replace q2:=X.out.cell 2 rfl;replace q3:=X.out.cell 3 rfl;replace q4:=X.out.cell 4 rfl;replace q5:=X.out.cell 5 rfl
 have F2:=Avp (Ala key other item data qty ln A m H.out G.out HK.out HO.out HI.out HD.out HDL.out)
 clear hb3 F1
 go_wp2_with fail
 refine F2.out.mono ?_
 rintro _ w4 ⟨_,rfl,hb4,e,rfl⟩
 replace B1:=Avp (B1.out.le hb4);replace X:=Avp (X.out.mono hb4);replace Z:=Avp (Z.out.mono hb4);replace H:=Avp (H.out.mono hb4);replace G:=Avp (G.out.mono hb4);replace HD:=Avp (HD.out.mono hb4)
 replace q0:=X.out.cell 0 rfl;replace q1:=X.out.cell 1 rfl;replace q2:=X.out.cell 2 rfl;replace q3:=X.out.cell 3 rfl;replace q4:=X.out.cell 4 rfl;replace q5:=X.out.cell 5 rfl
 clear hb4 F2
 by_cases he:e=0
 ·subst he
  have F3:=Avp (An7 key other item data qty ln A m H.out G.out HN.out HK.out HO.out HI.out HD.out HDL.out)
  go_wp2_with fail
  refine F3.out.mono ?_
  rintro _ w5 ⟨_,rfl,hb5,rfl⟩
  replace B1:=Avp (B1.out.le hb5);replace X:=Avp (X.out.mono hb5);replace Z:=Avp (Z.out.mono hb5);replace H:=Avp (H.out.mono hb5);replace G:=Avp (G.out.mono hb5);replace HD:=Avp (HD.out.mono hb5)
  replace q0:=X.out.cell 0 rfl;replace q1:=X.out.cell 1 rfl;replace q2:=X.out.cell 2 rfl;replace q3:=X.out.cell 3 rfl;replace q4:=X.out.cell 4 rfl;replace q5:=X.out.cell 5 rfl
  clear hb5 F3
  have hb6:Below w5.heap.size w5 (w5.alloc (.cells #[.int .i64 5,.int .i64 0,.int .i64 0,.slice none 0 0,.slice none 0 0] 60)):=by go_grown
  have Y:=Avp (Bx.new w5 #[.int .i64 5,.int .i64 0,.int .i64 0,.slice none 0 0,.slice none 0 0] 60)
  have L5:=Avp (show w.heap.size<=w5.heap.size∧N+1<w5.heap.size from⟨B1.out.size,Z.out.lt⟩)
  replace B1:=Avp (B1.out.le hb6);replace X:=Avp (X.out.mono hb6);replace Z:=Avp (Z.out.mono hb6);replace H:=Avp (H.out.mono hb6);replace G:=Avp (G.out.mono hb6);replace HD:=Avp (HD.out.mono hb6)
  obtain⟨J,hJ⟩:∃ J,J=w5.heap.size:=⟨_,rfl⟩
  obtain⟨w6,hw6⟩:∃ w6,w6=w5.alloc (.cells #[.int .i64 5,.int .i64 0,.int .i64 0,.slice none 0 0,.slice none 0 0] 60):=⟨_,rfl⟩
  rw[<-hw6] at Y X Z H G HD B1
  rw[<-hJ] at Y
  have JL:=Avp (show w.heap.size<=J∧N+1<J by rw[hJ];exact L5.out)
  have lt0:N<w5.heap.size:=by have:=L5.out;omega
  have HW6:=Avp hw6;have HJ:=Avp hJ
  clear hb6 hw6 hJ L5
  have F4:=Avp (Hq key H.out G.out (by have:=HK.out;omega))
  go_wp2_with fail
  rw[<-HJ.out,<-HW6.out]
  clear lt0 HW6 HJ
  refine F4.out.mono ?_
  rintro _ w7 ⟨_,rfl,hb7,p,rfl,hp⟩
  have hk0:=hp.noItems
  obtain⟨pA,pn,pca,pB,pm,pcb,pC,pk,pcc⟩:=p
  simp only at hk0
  subst hk0
  replace B1:=Avp (B1.out.le hb7);replace X:=Avp (X.out.mono hb7);replace Z:=Avp (Z.out.mono hb7);replace H:=Avp (H.out.mono hb7);replace G:=Avp (G.out.mono hb7);replace HD:=Avp (HD.out.mono hb7)
  replace Y:=Avp (Y.out.mono hb7)
  have l7:=Y.out.lt
  have BX:=Avp (Ak B1.out WB.out)
  have L7:=Avp (show B<=w7.heap.size by have:=WB.out;have:=B1.out.size;omega)
  clear hb7 hp F4 q0 q1 q2 q3 q4 q5
  have y0:=Y.out.cell 0 rfl;have y1:=Y.out.cell 1 rfl;have y2:=Y.out.cell 2 rfl;have y3:=Y.out.cell 3 rfl;have y4:=Y.out.cell 4 rfl
  have f2:=Y.out.fr 2 (by simp)
  obtain⟨yy,uy⟩:=Y.out.one (j:=2) (v:=.int .i64 0) (by simp)
  have jl:=JL.out
  have ZZ:=Avp (uy.bx Z.out (by omega))
  have BB:=Avp (Ae BX.out (uy.below (by have:=WB.out;omega)))
  clear yy uy jl
  have hb8:Below (w7.setCell ⟨J,2,none⟩ (.int .i64 0)).heap.size (w7.setCell ⟨J,2,none⟩ (.int .i64 0)) ((w7.setCell ⟨J,2,none⟩ (.int .i64 0)).alloc (.cells #[.slice pA pn pca,.slice pB pm pcb,.slice pC 0 pcc] 141)):=by go_grown
  replace ZZ:=Avp (ZZ.out.mono hb8)
  replace BB:=Avp (Ae BB.out (Ak hb8 (by rw[World.size_setCell];exact L7.out)))
  clear hb8
  go_wp2_with ((with_reducible refine Ai (N+1) ?_ ?_);(next=>rfl))
  unfold Az
  refine Af (J:=N+1) rfl rfl rfl rfl rfl ZZ.out (show(Tryz.prog.info? 60).map (·.size)=some 5 by kernel_rfl) rfl (by simp[Value.oneCell']) ?_
  intro w9 hx9 hu9
  have X9:=Avp hx9;have U9:=Avp hu9
  clear hx9 hu9
  go_wp2
  refine bodyPost_ret (v:=.tuple #[.agg #[.int .i64 5,.int .i64 0,.int .i64 0,.slice none 0 0,.slice none 0 0],.int .i64 0]) ?_ rfl ?_
  ·exact Ah Tryz.results80 rfl rfl X9.out Tryz.underlying60 rfl (show(Tryz.prog.info? 60).map (·.size)=some 5 by kernel_rfl)
  have en:=EN.out
  exact⟨⟨_,rfl⟩,Ae BB.out (U9.out.below (by have:=WB.out;omega))⟩
 ·skip
  clear q1 q2 q3 q4 q5
  go_wp2_with ((with_reducible refine Ai (N+1) ?_ ?_);(next=>rfl))
  unfold Az
  refine Af (J:=N+1) rfl rfl rfl rfl rfl Z.out (show(Tryz.prog.info? 60).map (·.size)=some 5 by kernel_rfl) rfl (by simp[Value.oneCell']) ?_
  intro w9 hx9 hu9
  have X9:=Avp hx9;have U9:=Avp hu9
  clear hx9 hu9
  clear q0
  go_wp2
  refine bodyPost_ret (v:=.tuple #[.agg #[.int .i64 5,.int .i64 e,.int .i64 0,.slice none 0 0,.slice none 0 0],.int .i64 0]) ?_ rfl ?_
  ·exact Ah Tryz.results80 rfl rfl X9.out Tryz.underlying60 rfl (show(Tryz.prog.info? 60).map (·.size)=some 5 by kernel_rfl)
  have en:=EN.out
  exact⟨⟨_,rfl⟩,Ae (Ak B1.out WB.out) (U9.out.below (by have:=WB.out;omega))⟩
theorem Aul
  {B:Nat} {w:World} {q:NPl} {n:Int} (key other item data:List UInt8) (qty:Int) (ln:Nat) (A:Option Addr) (m:Nat) (h:FN w q n) (g:Cr w) (hC:q.C≠q.N) (hB:B<=q.N∧B<=q.T∧B<=q.M∧B<=q.O∧B<=q.C∧B<=q.I) (hg:2<B∧1<B) (hn:0<=n∧n<=1000) (hk:key.length<=300) (ho:other.length<=300) (hi:item.length<=300) (hd:Sl encB w A ln m data) (hdl:data.length<=300) (hf:Br ⟨7,key,other,item,qty,data⟩=true)
  :
  Calls Tryz.prog 80 #[.pointer (some ⟨q.N,0,none⟩),.agg #[.int .i64 7,Ac key,Ac other,Ac item,.int .i64 qty,.slice A ln m]] w (DoP B 0 w)
  :=by
 have hln:=hd.len
 obtain⟨w1,hw1⟩:∃ w1,w1=(w.alloc (.cells #[.int .i64 7,Ac key,Ac other,Ac item,.int .i64 qty,.slice A ln m] 25)).alloc (.cells ansZ 60):=⟨_,rfl⟩
 obtain⟨N,hN⟩:∃ N,N=w.heap.size:=⟨_,rfl⟩
 have hb1:Below w.heap.size w w1:=by rw[hw1];go_grown
 have X:=Avp (show Bx w1 N [.int .i64 7,Ac key,Ac other,Ac item,.int .i64 qty,.slice A ln m] by rw[hw1,hN];exact(Bx.new w _ 25).mono (by go_grown))
 have Z:=Avp (show Bx w1 (N+1) ansZ.toList by rw[hw1,hN];have:=Bx.new (w.alloc (.cells #[.int .i64 7,Ac key,Ac other,Ac item,.int .i64 qty,.slice A ln m] 25)) ansZ 60;rw[World.size_alloc] at this;exact this)
 have F0:=Avp (J6 (h.mono hb1).kT)
 have B1:=Avp hb1
 have F1:=Avp (fun w2=>Fg ⟨7,key,other,item,qty,data⟩ A m w2)
 rw[hf] at F1
 unfold Aq at F1
 simp only at F1
 rw[<-hln] at F1
 have H:=Avp (h.mono hb1);have G:=Avp (g.mono hb1);have HN:=Avp hn;have HCN:=Avp hC;have G0:=Avp g
 have HK:=Avp hk;have HI:=Avp hi;have HO:=Avp ho;have HD:=Avp (hd.mono hb1);have HDL:=Avp hdl;have HB:=Avp hB;have HG:=Avp hg;have WS:=Avp h.lts
 have WB:=Avp (show B<=w.heap.size by have:=h.lts;omega)
 have EN:=Avp hN;have HW:=Avp hw1
 clear h hB hf hb1 hw1 g hC hn hk ho hi hd hdl hg hln
 go_enter Tryz.func80,Tryz.ntmps80
 go_wp2_with fail
 rw[<-hN,<-HW.out]
 clear hN HW
 refine F0.out.mono ?_
 rintro _ w2 ⟨_,rfl,hb2,rfl⟩
 replace B1:=Avp (B1.out.le hb2);replace X:=Avp (X.out.mono hb2);replace Z:=Avp (Z.out.mono hb2);replace H:=Avp (H.out.mono hb2);replace G:=Avp (G.out.mono hb2);replace HD:=Avp (HD.out.mono hb2)
 have q0:=X.out.cell 0 rfl;have q1:=X.out.cell 1 rfl;have q2:=X.out.cell 2 rfl;have q3:=X.out.cell 3 rfl;have q4:=X.out.cell 4 rfl;have q5:=X.out.cell 5 rfl
 clear hb2 F0
 go_wp2_with fail
 refine(F1.out _).mono ?_
 rintro _ w3 ⟨_,rfl,hb3,rfl⟩
 replace B1:=Avp (B1.out.le hb3);replace X:=Avp (X.out.mono hb3);replace Z:=Avp (Z.out.mono hb3);replace H:=Avp (H.out.mono hb3);replace G:=Avp (G.out.mono hb3);replace HD:=Avp (HD.out.mono hb3)
 replace q0:=X.out.cell 0 rfl;replace q1:=X.out.cell 1 rfl;replace q2:=X.out.cell 2 rfl;replace q3:=X.out.cell 3 rfl;replace q4:=X.out.cell 4 rfl;replace q5:=X.out.cell 5 rfl
 have F2:=Avp (Al9 key other item data qty ln A m H.out G.out HK.out HO.out HI.out HD.out HDL.out)
 clear hb3 F1
 go_wp2_with fail
 refine F2.out.mono ?_
 rintro _ w4 ⟨_,rfl,hb4,e,rfl⟩
 replace B1:=Avp (B1.out.le hb4);replace X:=Avp (X.out.mono hb4);replace Z:=Avp (Z.out.mono hb4);replace H:=Avp (H.out.mono hb4);replace G:=Avp (G.out.mono hb4);replace HD:=Avp (HD.out.mono hb4)
 replace q0:=X.out.cell 0 rfl;replace q1:=X.out.cell 1 rfl;replace q2:=X.out.cell 2 rfl;replace q3:=X.out.cell 3 rfl;replace q4:=X.out.cell 4 rfl;replace q5:=X.out.cell 5 rfl
 clear hb4 F2
 by_cases he:e=0
 ·subst he
  have F3:=Avp (Aox key other item data qty ln A m H.out G.out HN.out HK.out HO.out HI.out HD.out HDL.out)
  go_wp2_with fail
  refine F3.out.mono ?_
  rintro _ w5 ⟨_,rfl,hb5,e2,rfl⟩
  replace B1:=Avp (B1.out.le hb5);replace X:=Avp (X.out.mono hb5);replace Z:=Avp (Z.out.mono hb5);replace H:=Avp (H.out.mono hb5);replace G:=Avp (G.out.mono hb5);replace HD:=Avp (HD.out.mono hb5)
  replace q0:=X.out.cell 0 rfl;replace q1:=X.out.cell 1 rfl;replace q2:=X.out.cell 2 rfl;replace q3:=X.out.cell 3 rfl;replace q4:=X.out.cell 4 rfl;replace q5:=X.out.cell 5 rfl
  clear hb5 F3
  by_cases he2:e2=0
  ·subst he2
   have hb6:Below w5.heap.size w5 (w5.alloc (.cells #[.int .i64 7,.int .i64 0,.int .i64 0,.slice none 0 0,.slice none 0 0] 60)):=by go_grown
   have Y:=Avp (Bx.new w5 #[.int .i64 7,.int .i64 0,.int .i64 0,.slice none 0 0,.slice none 0 0] 60)
   have L5:=Avp (show w.heap.size<=w5.heap.size∧N+1<w5.heap.size from⟨B1.out.size,Z.out.lt⟩)
   replace B1:=Avp (B1.out.le hb6);replace X:=Avp (X.out.mono hb6);replace Z:=Avp (Z.out.mono hb6);replace H:=Avp (H.out.mono hb6);replace G:=Avp (G.out.mono hb6);replace HD:=Avp (HD.out.mono hb6)
   obtain⟨J,hJ⟩:∃ J,J=w5.heap.size:=⟨_,rfl⟩
   obtain⟨w6,hw6⟩:∃ w6,w6=w5.alloc (.cells #[.int .i64 7,.int .i64 0,.int .i64 0,.slice none 0 0,.slice none 0 0] 60):=⟨_,rfl⟩
   rw[<-hw6] at Y X Z H G HD B1
   rw[<-hJ] at Y
   have JL:=Avp (show w.heap.size<=J∧N+1<J by rw[hJ];exact L5.out)
   have lt0:N<w5.heap.size:=by have:=L5.out;omega
   have HW6:=Avp hw6;have HJ:=Avp hJ
   clear hb6 hw6 hJ L5
   have F4:=Avp (Aq1 key other item qty ln A m H.out G.out HK.out)
   go_wp2_with fail
   rw[<-HJ.out,<-HW6.out]
   clear lt0 HW6 HJ
   refine F4.out.mono ?_
   rintro _ w7 ⟨_,rfl,hb7,rfl⟩
   replace B1:=Avp (B1.out.le hb7);replace X:=Avp (X.out.mono hb7);replace Z:=Avp (Z.out.mono hb7);replace H:=Avp (H.out.mono hb7);replace G:=Avp (G.out.mono hb7);replace HD:=Avp (HD.out.mono hb7)
   replace Y:=Avp (Y.out.mono hb7)
   have BX:=Avp (Ak B1.out WB.out)
   clear hb7 F4 q0 q1 q2 q3 q4 q5
   have y0:=Y.out.cell 0 rfl;have y1:=Y.out.cell 1 rfl;have y2:=Y.out.cell 2 rfl;have y3:=Y.out.cell 3 rfl;have y4:=Y.out.cell 4 rfl
   have f2:=Y.out.fr 2 (by simp)
   obtain⟨yy,uy⟩:=Y.out.one (j:=2) (v:=.int .i64 0) (by simp)
   have jl:=JL.out
   have ZZ:=Avp (uy.bx Z.out (by omega))
   have BB:=Avp (Ae BX.out (uy.below (by have:=WB.out;omega)))
   clear yy uy jl
   go_wp2_with ((with_reducible refine Ai (N+1) ?_ ?_);(next=>rfl))
   unfold Az
   refine Af (J:=N+1) rfl rfl rfl rfl rfl ZZ.out (show(Tryz.prog.info? 60).map (·.size)=some 5 by kernel_rfl) rfl (by simp[Value.oneCell']) ?_
   intro w9 hx9 hu9
   have X9:=Avp hx9;have U9:=Avp hu9
   clear hx9 hu9
   go_wp2
   refine bodyPost_ret (v:=.tuple #[.agg #[.int .i64 7,.int .i64 0,.int .i64 0,.slice none 0 0,.slice none 0 0],.int .i64 0]) ?_ rfl ?_
   ·exact Ah Tryz.results80 rfl rfl X9.out Tryz.underlying60 rfl (show(Tryz.prog.info? 60).map (·.size)=some 5 by kernel_rfl)
   have en:=EN.out
   exact⟨⟨_,rfl⟩,Ae BB.out (U9.out.below (by have:=WB.out;omega))⟩
  ·skip
   clear q1 q2 q3 q4 q5
   go_wp2_with ((with_reducible refine Ai (N+1) ?_ ?_);(next=>rfl))
   unfold Az
   refine Af (J:=N+1) rfl rfl rfl rfl rfl Z.out (show(Tryz.prog.info? 60).map (·.size)=some 5 by kernel_rfl) rfl (by simp[Value.oneCell']) ?_
   intro w9 hx9 hu9
   have X9:=Avp hx9;have U9:=Avp hu9
   clear hx9 hu9
   clear q0
   go_wp2
   refine bodyPost_ret (v:=.tuple #[.agg #[.int .i64 7,.int .i64 e2,.int .i64 0,.slice none 0 0,.slice none 0 0],.int .i64 0]) ?_ rfl ?_
   ·exact Ah Tryz.results80 rfl rfl X9.out Tryz.underlying60 rfl (show(Tryz.prog.info? 60).map (·.size)=some 5 by kernel_rfl)
   have en:=EN.out
   exact⟨⟨_,rfl⟩,Ae (Ak B1.out WB.out) (U9.out.below (by have:=WB.out;omega))⟩
 ·skip
  clear q1 q2 q3 q4 q5
  go_wp2_with ((with_reducible refine Ai (N+1) ?_ ?_);(next=>rfl))
  unfold Az
  refine Af (J:=N+1) rfl rfl rfl rfl rfl Z.out (show(Tryz.prog.info? 60).map (·.size)=some 5 by kernel_rfl) rfl (by simp[Value.oneCell']) ?_
  intro w9 hx9 hu9
  have X9:=Avp hx9;have U9:=Avp hu9
  clear hx9 hu9
  clear q0
  go_wp2
  refine bodyPost_ret (v:=.tuple #[.agg #[.int .i64 7,.int .i64 e,.int .i64 0,.slice none 0 0,.slice none 0 0],.int .i64 0]) ?_ rfl ?_
  ·exact Ah Tryz.results80 rfl rfl X9.out Tryz.underlying60 rfl (show(Tryz.prog.info? 60).map (·.size)=some 5 by kernel_rfl)
  have en:=EN.out
  exact⟨⟨_,rfl⟩,Ae (Ak B1.out WB.out) (U9.out.below (by have:=WB.out;omega))⟩
end Go.Proofs.YthnbhjpahlceeaaGreatDoor
