/-
  Node.Do on a new node: OpDrain, OpClose.
-/
import Derived.Test.YthnbhjpahlceeaaGreatDoorTG
import Derived.Test.YthnbhjpahlceeaaGreatDoorTF
import Derived.Test.YthnbhjpahlceeaaGreatDoorTE
set_option maxRecDepth 100000
set_option maxHeartbeats 8000000
set_option linter.unusedSectionVars false
set_option linter.unusedVariables false
set_option linter.unusedSimpArgs false
set_option maxRecDepth 100000
set_option maxHeartbeats 8000000
namespace Go.Proofs.YthnbhjpahlceeaaGreatDoor
open Go.RowKit
theorem At3
  {B:Nat} {w:World} {q:NPl} {n:Int} (key other item data:List UInt8) (qty:Int) (ln:Nat) (A:Option Addr) (m:Nat) (h:FN w q n) (g:Cr w) (hC:q.C≠q.N) (hB:B<=q.N∧B<=q.T∧B<=q.M∧B<=q.O∧B<=q.C∧B<=q.I) (hg:2<B∧1<B) (hn:0<=n∧n<=1000) (hk:key.length<=300) (ho:other.length<=300) (hi:item.length<=300) (hd:Sl encB w A ln m data) (hdl:data.length<=300) (hf:Br ⟨11,key,other,item,qty,data⟩=true)
  :
  Calls Tryz.prog 80 #[.pointer (some ⟨q.N,0,none⟩),.agg #[.int .i64 11,Ac key,Ac other,Ac item,.int .i64 qty,.slice A ln m]] w (DoP B 0 w)
  :=by
 have hln:=hd.len
 obtain⟨w1,hw1⟩:∃ w1,w1=(w.alloc (.cells #[.int .i64 11,Ac key,Ac other,Ac item,.int .i64 qty,.slice A ln m] 25)).alloc (.cells ansZ 60):=⟨_,rfl⟩
 obtain⟨N,hN⟩:∃ N,N=w.heap.size:=⟨_,rfl⟩
 have hb1:Below w.heap.size w w1:=by rw[hw1];go_grown
 have X:=Avp (show Bx w1 N [.int .i64 11,Ac key,Ac other,Ac item,.int .i64 qty,.slice A ln m] by rw[hw1,hN];exact(Bx.new w _ 25).mono (by go_grown))
 have Z:=Avp (show Bx w1 (N+1) ansZ.toList by rw[hw1,hN];have:=Bx.new (w.alloc (.cells #[.int .i64 11,Ac key,Ac other,Ac item,.int .i64 qty,.slice A ln m] 25)) ansZ 60;rw[World.size_alloc] at this;exact this)
 have F0:=Avp (J6 (h.mono hb1).kT)
 have B1:=Avp hb1
 have F1:=Avp (fun w2=>Fg ⟨11,key,other,item,qty,data⟩ A m w2)
 rw[hf] at F1
 unfold Aq at F1
 simp only at F1
 rw[<-hln] at F1
 have H:=Avp (h.mono hb1);have G:=Avp (g.mono hb1);have HN:=Avp hn;have HCN:=Avp hC;have G0:=Avp g
 have HK:=Avp hk;have HI:=Avp hi;have HO:=Avp ho;have HD:=Avp (hd.mono hb1);have HDL:=Avp hdl;have HB:=Avp hB;have HG:=Avp hg;have WS:=Avp h.lts
 have WB:=Avp (show B<=w.heap.size by have:=h.lts;omega)
 have EN:=Avp hN;have HW:=Avp hw1
 clear h hB hf hb1 hw1 g hC hn hk ho hi hd hdl hg hln
 go_enter Tryz.func80,Tryz.ntmps80
 go_wp2_with fail
 rw[<-hN,<-HW.out]
 clear hN HW
 refine F0.out.mono ?_
 rintro _ w2 ⟨_,rfl,hb2,rfl⟩
 replace B1:=Avp (B1.out.le hb2);replace X:=Avp (X.out.mono hb2);replace Z:=Avp (Z.out.mono hb2);replace H:=Avp (H.out.mono hb2);replace G:=Avp (G.out.mono hb2);replace HD:=Avp (HD.out.mono hb2)
 have q0:=X.out.cell 0 rfl;have q1:=X.out.cell 1 rfl;have q2:=X.out.cell 2 rfl;have q3:=X.out.cell 3 rfl;have q4:=X.out.cell 4 rfl;have q5:=X.out.cell 5 rfl
 clear hb2 F0
 go_wp2_with fail
 refine(F1.out _).mono ?_
 rintro _ w3 ⟨_,rfl,hb3,rfl⟩
 replace B1:=Avp (B1.out.le hb3);replace X:=Avp (X.out.mono hb3);replace Z:=Avp (Z.out.mono hb3);replace H:=Avp (H.out.mono hb3);replace G:=Avp (G.out.mono hb3);replace HD:=Avp (HD.out.mono hb3)
 replace q0:=X.out.cell 0 rfl;replace q1:=X.out.cell 1 rfl;replace q2:=X.out.cell 2 rfl;replace q3:=X.out.cell 3 rfl;replace q4:=X.out.cell 4 rfl;replace q5:=X.out.cell 5 rfl
 have F2:=Avp (Ain key other item data qty ln A m H.out G.out HK.out HO.out HI.out HD.out HDL.out)
 clear hb3 F1
 go_wp2_with fail
 refine F2.out.mono ?_
 rintro _ w4 ⟨_,rfl,hb4,e,rfl⟩
 replace B1:=Avp (B1.out.le hb4);replace X:=Avp (X.out.mono hb4);replace Z:=Avp (Z.out.mono hb4);replace H:=Avp (H.out.mono hb4);replace G:=Avp (G.out.mono hb4);replace HD:=Avp (HD.out.mono hb4)
 replace q0:=X.out.cell 0 rfl;replace q1:=X.out.cell 1 rfl;replace q2:=X.out.cell 2 rfl;replace q3:=X.out.cell 3 rfl;replace q4:=X.out.cell 4 rfl;replace q5:=X.out.cell 5 rfl
 clear hb4 F2
 by_cases he:e=0
 ·subst he
  have F3:=Avp (Ak3 key other item data qty ln A m H.out G.out HN.out HK.out HO.out HI.out HD.out HDL.out)
  go_wp2_with fail
  refine F3.out.mono ?_
  rintro _ w5 ⟨_,rfl,hb5,rfl⟩
  replace B1:=Avp (B1.out.le hb5);replace X:=Avp (X.out.mono hb5);replace Z:=Avp (Z.out.mono hb5);replace H:=Avp (H.out.mono hb5);replace G:=Avp (G.out.mono hb5);replace HD:=Avp (HD.out.mono hb5)
  replace q0:=X.out.cell 0 rfl;replace q1:=X.out.cell 1 rfl;replace q2:=X.out.cell 2 rfl;replace q3:=X.out.cell 3 rfl;replace q4:=X.out.cell 4 rfl;replace q5:=X.out.cell 5 rfl
  clear hb5 F3
  have k8:=H.out.k8;have f8:=H.out.frN
  have hb6:Below w5.heap.size w5 (w5.alloc (.cells #[.int .i64 11,.int .i64 0,.int .i64 0,.slice none 0 0,.slice none 0 0] 60)):=by go_grown
  have Y:=Avp (Bx.new w5 #[.int .i64 11,.int .i64 0,.int .i64 0,.slice none 0 0,.slice none 0 0] 60)
  have L5:=Avp (show w.heap.size<=w5.heap.size∧N+1<w5.heap.size from⟨B1.out.size,Z.out.lt⟩)
  replace B1:=Avp (B1.out.le hb6);replace X:=Avp (X.out.mono hb6);replace Z:=Avp (Z.out.mono hb6);replace H:=Avp (H.out.mono hb6);replace G:=Avp (G.out.mono hb6);replace HD:=Avp (HD.out.mono hb6)
  obtain⟨J,hJ⟩:∃ J,J=w5.heap.size:=⟨_,rfl⟩
  obtain⟨w6,hw6⟩:∃ w6,w6=w5.alloc (.cells #[.int .i64 11,.int .i64 0,.int .i64 0,.slice none 0 0,.slice none 0 0] 60):=⟨_,rfl⟩
  rw[<-hw6] at Y X Z H G HD B1
  rw[<-hJ] at Y
  have JL:=Avp (show w.heap.size<=J∧N+1<J by rw[hJ];exact L5.out)
  have lt0:N<w5.heap.size:=by have:=L5.out;omega
  have HW6:=Avp hw6;have HJ:=Avp hJ
  clear hb6 hw6 hJ L5
  have hw6:An q.N none w6 (w6.setCell ⟨q.N,8,none⟩ (.bool true)):=(An.ofBelow (Below.refl _ _)).setAny (o:=8) _
  have ZZ:=Avp (Z.out.wrote hw6 (by have:=WS.out;have:=EN.out;omega) (by simp))
  have BB:=Avp (Ae (Ak B1.out WB.out) (hw6.below (B:=B) (by have:=WB.out;have:=B1.out.size;omega) HB.out.1 (by simp)))
  have ln:q.N<w5.heap.size:=World.block_lt_of_cell? w5 _ k8
  rw[HW6.out,World.setCell_alloc_past _ _ _ _ ln] at ZZ BB
  clear hw6
  go_wp2_with ((with_reducible refine Ai (N+1) ?_ ?_);(next=>rfl))
  unfold Az
  refine Af (J:=N+1) rfl rfl rfl rfl rfl ZZ.out (show(Tryz.prog.info? 60).map (·.size)=some 5 by kernel_rfl) rfl (by simp[Value.oneCell']) ?_
  intro w9 hx9 hu9
  have X9:=Avp hx9;have U9:=Avp hu9
  clear hx9 hu9
  go_wp2
  refine bodyPost_ret (v:=.tuple #[.agg #[.int .i64 11,.int .i64 0,.int .i64 0,.slice none 0 0,.slice none 0 0],.int .i64 0]) ?_ rfl ?_
  ·exact Ah Tryz.results80 rfl rfl X9.out Tryz.underlying60 rfl (show(Tryz.prog.info? 60).map (·.size)=some 5 by kernel_rfl)
  have en:=EN.out
  exact⟨⟨_,rfl⟩,Ae BB.out (U9.out.below (by have:=WB.out;omega))⟩
 ·skip
  clear q1 q2 q3 q4 q5
  go_wp2_with ((with_reducible refine Ai (N+1) ?_ ?_);(next=>rfl))
  unfold Az
  refine Af (J:=N+1) rfl rfl rfl rfl rfl Z.out (show(Tryz.prog.info? 60).map (·.size)=some 5 by kernel_rfl) rfl (by simp[Value.oneCell']) ?_
  intro w9 hx9 hu9
  have X9:=Avp hx9;have U9:=Avp hu9
  clear hx9 hu9
  clear q0
  go_wp2
  refine bodyPost_ret (v:=.tuple #[.agg #[.int .i64 11,.int .i64 e,.int .i64 0,.slice none 0 0,.slice none 0 0],.int .i64 0]) ?_ rfl ?_
  ·exact Ah Tryz.results80 rfl rfl X9.out Tryz.underlying60 rfl (show(Tryz.prog.info? 60).map (·.size)=some 5 by kernel_rfl)
  have en:=EN.out
  exact⟨⟨_,rfl⟩,Ae (Ak B1.out WB.out) (U9.out.below (by have:=WB.out;omega))⟩
theorem J4:Enters Tryz.prog 134:=enters_of Tryz.func134 (by kernel_rfl) rfl
theorem Kd:Enters Tryz.prog 133:=enters_of Tryz.func133 (by kernel_rfl) rfl
section
variable {P:Program} {ops:Array Oper} {Q:Exit->Act->World->Prop}
theorem T5 {i j fuel:Nat} {oi oj:Oper} {listed:Array Bool} {a:Act} {w:World} (hr:(Region.ready .any ops listed==[i,j])=true) (hi:ops[i]?=some oi) (hj:ops[j]?=some oj) (gi:oi.guard=none) (gj:oj.guard=none)
  (k1:oi.wp P a w (wpAny P .any ops Q fuel (listed.setIfInBounds i true)) Q) (k2:oj.wp P a w (wpAny P .any ops Q fuel (listed.setIfInBounds j true)) Q):wpAny P .any ops Q (fuel+1) listed a w:=by
 refine wpAny_all (rs:=[i,j]) (by simpa using hr) (by simp) fun k hk=>?_
 rcases List.mem_cons.1 hk with rfl | hk
 ·unfold wpOp
  simp only[hi]
  rw[if_pos (by simp[Region.wanted,gi])]
  exact .inl k1
 ·obtain rfl:=List.mem_singleton.1 hk
  unfold wpOp
  simp only[hj]
  rw[if_pos (by simp[Region.wanted,gj])]
  exact .inl k2
end
theorem Atr
  {B:Nat} {w:World} {q:NPl} {n:Int} (key other item data:List UInt8) (qty:Int) (ln:Nat) (A:Option Addr) (m:Nat) (h:FN w q n) (g:Cr w) (hC:q.C≠q.N) (hB:B<=q.N∧B<=q.T∧B<=q.M∧B<=q.O∧B<=q.C∧B<=q.I) (hg:2<B∧1<B) (hn:0<=n∧n<=1000) (hk:key.length<=300) (ho:other.length<=300) (hi:item.length<=300) (hd:Sl encB w A ln m data) (hdl:data.length<=300) (hf:Br ⟨10,key,other,item,qty,data⟩=true)
  :
  Calls Tryz.prog 80 #[.pointer (some ⟨q.N,0,none⟩),.agg #[.int .i64 10,Ac key,Ac other,Ac item,.int .i64 qty,.slice A ln m]] w (DoP B 0 w)
  :=by
 have hln:=hd.len
 obtain⟨w1,hw1⟩:∃ w1,w1=(w.alloc (.cells #[.int .i64 10,Ac key,Ac other,Ac item,.int .i64 qty,.slice A ln m] 25)).alloc (.cells ansZ 60):=⟨_,rfl⟩
 obtain⟨N,hN⟩:∃ N,N=w.heap.size:=⟨_,rfl⟩
 have hb1:Below w.heap.size w w1:=by rw[hw1];go_grown
 have X:=Avp (show Bx w1 N [.int .i64 10,Ac key,Ac other,Ac item,.int .i64 qty,.slice A ln m] by rw[hw1,hN];exact(Bx.new w _ 25).mono (by go_grown))
 have Z:=Avp (show Bx w1 (N+1) ansZ.toList by rw[hw1,hN];have:=Bx.new (w.alloc (.cells #[.int .i64 10,Ac key,Ac other,Ac item,.int .i64 qty,.slice A ln m] 25)) ansZ 60;rw[World.size_alloc] at this;exact this)
 have F0:=Avp (J6 (h.mono hb1).kT)
 have B1:=Avp hb1
 have F1:=Avp (fun w2=>Fg ⟨10,key,other,item,qty,data⟩ A m w2)
 rw[hf] at F1
 unfold Aq at F1
 simp only at F1
 rw[<-hln] at F1
 have H:=Avp (h.mono hb1);have G:=Avp (g.mono hb1);have HN:=Avp hn;have HCN:=Avp hC;have G0:=Avp g
 have HK:=Avp hk;have HI:=Avp hi;have HO:=Avp ho;have HD:=Avp (hd.mono hb1);have HDL:=Avp hdl;have HB:=Avp hB;have HG:=Avp hg;have WS:=Avp h.lts
 have WB:=Avp (show B<=w.heap.size by have:=h.lts;omega)
 have EN:=Avp hN;have HW:=Avp hw1
 clear h hB hf hb1 hw1 g hC hn hk ho hi hd hdl hg hln
 go_enter Tryz.func80,Tryz.ntmps80
 go_wp2_with fail
 rw[<-hN,<-HW.out]
 clear hN HW
 refine F0.out.mono ?_
 rintro _ w2 ⟨_,rfl,hb2,rfl⟩
 replace B1:=Avp (B1.out.le hb2);replace X:=Avp (X.out.mono hb2);replace Z:=Avp (Z.out.mono hb2);replace H:=Avp (H.out.mono hb2);replace G:=Avp (G.out.mono hb2);replace HD:=Avp (HD.out.mono hb2)
 have q0:=X.out.cell 0 rfl;have q1:=X.out.cell 1 rfl;have q2:=X.out.cell 2 rfl;have q3:=X.out.cell 3 rfl;have q4:=X.out.cell 4 rfl;have q5:=X.out.cell 5 rfl
 clear hb2 F0
 go_wp2_with fail
 refine(F1.out _).mono ?_
 rintro _ w3 ⟨_,rfl,hb3,rfl⟩
 replace B1:=Avp (B1.out.le hb3);replace X:=Avp (X.out.mono hb3);replace Z:=Avp (Z.out.mono hb3);replace H:=Avp (H.out.mono hb3);replace G:=Avp (G.out.mono hb3);replace HD:=Avp (HD.out.mono hb3)
 replace q0:=X.out.cell 0 rfl;replace q1:=X.out.cell 1 rfl;replace q2:=X.out.cell 2 rfl;replace q3:=X.out.cell 3 rfl;replace q4:=X.out.cell 4 rfl;replace q5:=X.out.cell 5 rfl
 have F2:=Avp (Ajb key other item data qty ln A m H.out G.out HK.out HO.out HI.out HD.out HDL.out)
 clear hb3 F1
 go_wp2_with fail
 refine F2.out.mono ?_
 rintro _ w4 ⟨_,rfl,hb4,e,rfl⟩
 replace B1:=Avp (B1.out.le hb4);replace X:=Avp (X.out.mono hb4);replace Z:=Avp (Z.out.mono hb4);replace H:=Avp (H.out.mono hb4);replace G:=Avp (G.out.mono hb4);replace HD:=Avp (HD.out.mono hb4)
 replace q0:=X.out.cell 0 rfl;replace q1:=X.out.cell 1 rfl;replace q2:=X.out.cell 2 rfl;replace q3:=X.out.cell 3 rfl;replace q4:=X.out.cell 4 rfl;replace q5:=X.out.cell 5 rfl
 clear hb4 F2
 by_cases he:e=0
 ·subst he
  have F3:=Avp (Ak0 key other item data qty ln A m H.out G.out HN.out HK.out HO.out HI.out HD.out HDL.out)
  go_wp2_with fail
  refine F3.out.mono ?_
  rintro _ w5 ⟨_,rfl,hb5,rfl⟩
  replace B1:=Avp (B1.out.le hb5);replace X:=Avp (X.out.mono hb5);replace Z:=Avp (Z.out.mono hb5);replace H:=Avp (H.out.mono hb5);replace G:=Avp (G.out.mono hb5);replace HD:=Avp (HD.out.mono hb5)
  replace q0:=X.out.cell 0 rfl;replace q1:=X.out.cell 1 rfl;replace q2:=X.out.cell 2 rfl;replace q3:=X.out.cell 3 rfl;replace q4:=X.out.cell 4 rfl;replace q5:=X.out.cell 5 rfl
  clear hb5 F3
  have hb6:Below w5.heap.size w5 (w5.alloc (.cells #[.int .i64 10,.int .i64 0,.int .i64 0,.slice none 0 0,.slice none 0 0] 60)):=by go_grown
  have Y:=Avp (Bx.new w5 #[.int .i64 10,.int .i64 0,.int .i64 0,.slice none 0 0,.slice none 0 0] 60)
  have L5:=Avp (show w.heap.size<=w5.heap.size∧N+1<w5.heap.size from⟨B1.out.size,Z.out.lt⟩)
  replace B1:=Avp (B1.out.le hb6);replace X:=Avp (X.out.mono hb6);replace Z:=Avp (Z.out.mono hb6);replace H:=Avp (H.out.mono hb6);replace G:=Avp (G.out.mono hb6);replace HD:=Avp (HD.out.mono hb6)
  obtain⟨J,hJ⟩:∃ J,J=w5.heap.size:=⟨_,rfl⟩
  obtain⟨w6,hw6⟩:∃ w6,w6=w5.alloc (.cells #[.int .i64 10,.int .i64 0,.int .i64 0,.slice none 0 0,.slice none 0 0] 60):=⟨_,rfl⟩
  rw[<-hw6] at Y X Z H G HD B1
  rw[<-hJ] at Y
  have JL:=Avp (show w.heap.size<=J∧N+1<J by rw[hJ];exact L5.out)
  have lt0:N<w5.heap.size:=by have:=L5.out;omega
  have HW6:=Avp hw6;have HJ:=Avp hJ
  clear hb6 hw6 hJ L5
  go_wp2_with fail
  rw[<-HJ.out,<-HW6.out]
  clear lt0 HW6 HJ
  refine wp_region_any mixed ?_
  change wpAny _ _ _ _ _ _ _ (World.drew w6)
  replace B1:=Avp (B1.out.le (Below.dr _));replace X:=Avp (X.out.mono (Below.dr _));replace Z:=Avp (Z.out.mono (Below.dr _));replace H:=Avp (H.out.mono (Below.dr _));replace G:=Avp (G.out.mono (Below.dr _));replace HD:=Avp (HD.out.mono (Below.dr _))
  replace Y:=Avp (Y.out.mono (Below.dr _))
  generalize w6.drew=wd at *
  clear q0 q1 q2 q3 q4 q5
  refine Ap (i:=0) rfl rfl (by kernel_rfl) (fun _ _ _ h=>h) (v:=.pointer (some ⟨q.N,0,none⟩)) (fun w=>by simp[execOp,Act.eval,go_sem]) ?_
  refine Ap (i:=1) rfl rfl (by kernel_rfl) (fun _ _ _ h=>h) (v:=.pointer (some ⟨q.N,0,none⟩)) (fun w=>by simp[execOp,Act.eval,Act.put,go_sem]) ?_
  refine Ap (i:=2) rfl rfl (by kernel_rfl) (fun _ _ _ h=>h) (v:=.pointer (some ⟨q.N,7,none⟩)) (fun w=>by simp[execOp,Act.eval,Act.put,go_sem]) ?_
  refine Ap (i:=4) rfl rfl (by kernel_rfl) (fun _ _ _ h=>h) (v:=.pointer (some ⟨q.N,0,none⟩)) (fun w=>by simp[execOp,Act.eval,Act.put,go_sem]) ?_
  refine Ap (i:=5) rfl rfl (by kernel_rfl) (fun _ _ _ h=>h) (v:=.pointer (some ⟨q.N,0,none⟩)) (fun w=>by simp[execOp,Act.eval,Act.put,go_sem]) ?_
  refine Ap (i:=6) rfl rfl (by kernel_rfl) (fun _ _ _ h=>h) (v:=.pointer (some ⟨q.N,4,none⟩)) (fun w=>by simp[execOp,Act.eval,Act.put,go_sem]) ?_
  simp only[Act.put,List.setIfInBounds_toArray,List.set_cons_zero,List.set_cons_succ]
  have kO:=H.out.kO;have kT:=H.out.kT
  refine T5 (i:=3) (j:=7) (by kernel_rfl) rfl rfl rfl rfl ?_ ?_
  ·skip
   refine Dz (v:=.pointer (some ⟨q.O,0,none⟩)) (by simp only[execOp,Act.eval];simp[Act.eval,go_sem,kO]) ?_
   simp only[Act.put,List.setIfInBounds_toArray,List.set_cons_zero,List.set_cons_succ]
   refine Cu (i:=7) (by kernel_rfl) rfl rfl ?_
   refine Dz (v:=.pointer (some ⟨q.T,0,none⟩)) (by simp only[execOp,Act.eval];simp[Act.eval,go_sem,kT]) ?_
   simp only[Act.put,List.setIfInBounds_toArray,List.set_cons_zero,List.set_cons_succ]
   refine Cu (i:=8) (by kernel_rfl) rfl rfl ?_
   clear kO kT
   refine Gd J4 (by rw[List.map_toArray];rfl) (Arp H.out.tab) (fun v w7 h=>?_) (fun ch w7 h=>by obtain⟨_,h,_⟩:=h;cases h) (fun w7 h=>by obtain⟨_,h,_⟩:=h;cases h)
   obtain⟨_,e7,hb7,rfl⟩:=h
   cases e7
   replace B1:=Avp (B1.out.le hb7);replace X:=Avp (X.out.mono hb7);replace Z:=Avp (Z.out.mono hb7);replace H:=Avp (H.out.mono hb7);replace G:=Avp (G.out.mono hb7);replace HD:=Avp (HD.out.mono hb7)
   replace Y:=Avp (Y.out.mono hb7)
   have kO:=H.out.kO
   clear hb7
   simp only[Act.put,List.setIfInBounds_toArray,List.set_cons_zero,List.set_cons_succ]
   refine Cu (i:=9) (by kernel_rfl) rfl rfl ?_
   refine Gd Kd (by rw[List.map_toArray];rfl) (Aby H.out.out G.out.nm.ok) (fun v w8 h=>?_) (fun ch w8 h=>by cases h.1) (fun w8 h=>by cases h.1)
   obtain⟨e8,hw8⟩:=h
   cases e8
   have hk8:=Di.ofWrote (q:=q) hw8 (.inr (.inr (.inr (.inr (.inr rfl)))))
   have BX:=Avp (Ae (Ak B1.out WB.out) (hk8.below (by have:=WB.out;have:=B1.out.size;omega) HB.out))
   replace Y:=Avp (hk8.bx Y.out (by have:=WS.out;have:=JL.out;omega))
   replace Z:=Avp (hk8.bx Z.out (by have:=WS.out;have:=EN.out;omega))
   clear hk8 hw8
   simp only[Act.put,List.setIfInBounds_toArray,List.set_cons_zero,List.set_cons_succ]
   refine Ap (i:=10) rfl rfl (by kernel_rfl) (fun _ _ _ h=>h) (v:=.tuple #[.slice none 0 0,.int .i64 0]) (fun w=>by simp[execOp,Act.eval,go_sem]) ?_
   refine Ap (i:=11) rfl rfl (by kernel_rfl) (fun _ _ _ h=>h) (v:=.slice none 0 0) (fun w=>by simp[execOp,Act.eval,Act.put,go_sem]) ?_
   refine Ap (i:=12) rfl rfl (by kernel_rfl) (fun _ _ _ h=>h) (v:=.int .i64 0) (fun w=>by simp[execOp,Act.eval,Act.put,go_sem]) ?_
   refine Ap (i:=13) rfl rfl (by kernel_rfl) (fun _ _ _ h=>h) (v:=.slice none 0 0) (fun w=>by simp[execOp,Act.eval,Act.put,go_sem]) ?_
   refine Cu (i:=14) (by kernel_rfl) rfl rfl ?_
   simp only[Act.put,List.setIfInBounds_toArray,List.set_cons_zero,List.set_cons_succ]
   refine Dz (v:=.int .i64 0) (by simp[execOp,Act.eval,go_sem]) ?_
   simp only[Act.put,List.setIfInBounds_toArray,List.set_cons_zero,List.set_cons_succ]
   refine⟨by kernel_rfl,?_⟩
   have y0:=Y.out.cell 0 rfl;have y1:=Y.out.cell 1 rfl;have y2:=Y.out.cell 2 rfl;have y3:=Y.out.cell 3 rfl;have y4:=Y.out.cell 4 rfl
   have f2:=Y.out.fr 2 (by simp);have f4:=Y.out.fr 4 (by simp)
   obtain⟨yy,uy⟩:=Y.out.one (j:=4) (v:=.slice none 0 0) (by simp)
   obtain⟨yy2,uy2⟩:=yy.one (j:=2) (v:=.int .i64 0) (by simp)
   have jl:=JL.out
   have ZZ:=Avp (uy2.bx (uy.bx Z.out (by omega)) (by omega))
   have BB:=Avp (Ae BX.out (Ae (uy.below (by have:=WB.out;omega)) (uy2.below (by have:=WB.out;omega))))
   clear yy uy yy2 uy2 jl kO
   go_wp2_with ((with_reducible refine Ai (N+1) ?_ ?_);(next=>rfl))
   unfold Az
   refine Af (J:=N+1) rfl rfl rfl rfl rfl ZZ.out (show(Tryz.prog.info? 60).map (·.size)=some 5 by kernel_rfl) rfl (by simp[Value.oneCell']) ?_
   intro w9 hx9 hu9
   have X9:=Avp hx9;have U9:=Avp hu9
   clear hx9 hu9
   go_wp2
   refine bodyPost_ret (v:=.tuple #[.agg #[.int .i64 10,.int .i64 0,.int .i64 0,.slice none 0 0,.slice none 0 0],.int .i64 0]) ?_ rfl ?_
   ·exact Ah Tryz.results80 rfl rfl X9.out Tryz.underlying60 rfl (show(Tryz.prog.info? 60).map (·.size)=some 5 by kernel_rfl)
   have en:=EN.out
   exact⟨⟨_,rfl⟩,Ae BB.out (U9.out.below (by have:=WB.out;omega))⟩
  ·skip
   refine Dz (v:=.pointer (some ⟨q.T,0,none⟩)) (by simp only[execOp,Act.eval];simp[Act.eval,go_sem,kT]) ?_
   simp only[Act.put,List.setIfInBounds_toArray,List.set_cons_zero,List.set_cons_succ]
   refine T5 (i:=3) (j:=8) (by kernel_rfl) rfl rfl rfl rfl ?_ ?_
   ·skip
    refine Dz (v:=.pointer (some ⟨q.O,0,none⟩)) (by simp only[execOp,Act.eval];simp[Act.eval,go_sem,kO]) ?_
    simp only[Act.put,List.setIfInBounds_toArray,List.set_cons_zero,List.set_cons_succ]
    refine Cu (i:=8) (by kernel_rfl) rfl rfl ?_
    clear kO kT
    refine Gd J4 (by rw[List.map_toArray];rfl) (Arp H.out.tab) (fun v w7 h=>?_) (fun ch w7 h=>by obtain⟨_,h,_⟩:=h;cases h) (fun w7 h=>by obtain⟨_,h,_⟩:=h;cases h)
    obtain⟨_,e7,hb7,rfl⟩:=h
    cases e7
    replace B1:=Avp (B1.out.le hb7);replace X:=Avp (X.out.mono hb7);replace Z:=Avp (Z.out.mono hb7);replace H:=Avp (H.out.mono hb7);replace G:=Avp (G.out.mono hb7);replace HD:=Avp (HD.out.mono hb7)
    replace Y:=Avp (Y.out.mono hb7)
    have kO:=H.out.kO
    clear hb7
    simp only[Act.put,List.setIfInBounds_toArray,List.set_cons_zero,List.set_cons_succ]
    refine Cu (i:=9) (by kernel_rfl) rfl rfl ?_
    refine Gd Kd (by rw[List.map_toArray];rfl) (Aby H.out.out G.out.nm.ok) (fun v w8 h=>?_) (fun ch w8 h=>by cases h.1) (fun w8 h=>by cases h.1)
    obtain⟨e8,hw8⟩:=h
    cases e8
    have hk8:=Di.ofWrote (q:=q) hw8 (.inr (.inr (.inr (.inr (.inr rfl)))))
    have BX:=Avp (Ae (Ak B1.out WB.out) (hk8.below (by have:=WB.out;have:=B1.out.size;omega) HB.out))
    replace Y:=Avp (hk8.bx Y.out (by have:=WS.out;have:=JL.out;omega))
    replace Z:=Avp (hk8.bx Z.out (by have:=WS.out;have:=EN.out;omega))
    clear hk8 hw8
    simp only[Act.put,List.setIfInBounds_toArray,List.set_cons_zero,List.set_cons_succ]
    refine Ap (i:=10) rfl rfl (by kernel_rfl) (fun _ _ _ h=>h) (v:=.tuple #[.slice none 0 0,.int .i64 0]) (fun w=>by simp[execOp,Act.eval,go_sem]) ?_
    refine Ap (i:=11) rfl rfl (by kernel_rfl) (fun _ _ _ h=>h) (v:=.slice none 0 0) (fun w=>by simp[execOp,Act.eval,Act.put,go_sem]) ?_
    refine Ap (i:=12) rfl rfl (by kernel_rfl) (fun _ _ _ h=>h) (v:=.int .i64 0) (fun w=>by simp[execOp,Act.eval,Act.put,go_sem]) ?_
    refine Ap (i:=13) rfl rfl (by kernel_rfl) (fun _ _ _ h=>h) (v:=.slice none 0 0) (fun w=>by simp[execOp,Act.eval,Act.put,go_sem]) ?_
    refine Cu (i:=14) (by kernel_rfl) rfl rfl ?_
    simp only[Act.put,List.setIfInBounds_toArray,List.set_cons_zero,List.set_cons_succ]
    refine Dz (v:=.int .i64 0) (by simp[execOp,Act.eval,go_sem]) ?_
    simp only[Act.put,List.setIfInBounds_toArray,List.set_cons_zero,List.set_cons_succ]
    refine⟨by kernel_rfl,?_⟩
    have y0:=Y.out.cell 0 rfl;have y1:=Y.out.cell 1 rfl;have y2:=Y.out.cell 2 rfl;have y3:=Y.out.cell 3 rfl;have y4:=Y.out.cell 4 rfl
    have f2:=Y.out.fr 2 (by simp);have f4:=Y.out.fr 4 (by simp)
    obtain⟨yy,uy⟩:=Y.out.one (j:=4) (v:=.slice none 0 0) (by simp)
    obtain⟨yy2,uy2⟩:=yy.one (j:=2) (v:=.int .i64 0) (by simp)
    have jl:=JL.out
    have ZZ:=Avp (uy2.bx (uy.bx Z.out (by omega)) (by omega))
    have BB:=Avp (Ae BX.out (Ae (uy.below (by have:=WB.out;omega)) (uy2.below (by have:=WB.out;omega))))
    clear yy uy yy2 uy2 jl kO
    go_wp2_with ((with_reducible refine Ai (N+1) ?_ ?_);(next=>rfl))
    unfold Az
    refine Af (J:=N+1) rfl rfl rfl rfl rfl ZZ.out (show(Tryz.prog.info? 60).map (·.size)=some 5 by kernel_rfl) rfl (by simp[Value.oneCell']) ?_
    intro w9 hx9 hu9
    have X9:=Avp hx9;have U9:=Avp hu9
    clear hx9 hu9
    go_wp2
    refine bodyPost_ret (v:=.tuple #[.agg #[.int .i64 10,.int .i64 0,.int .i64 0,.slice none 0 0,.slice none 0 0],.int .i64 0]) ?_ rfl ?_
    ·exact Ah Tryz.results80 rfl rfl X9.out Tryz.underlying60 rfl (show(Tryz.prog.info? 60).map (·.size)=some 5 by kernel_rfl)
    have en:=EN.out
    exact⟨⟨_,rfl⟩,Ae BB.out (U9.out.below (by have:=WB.out;omega))⟩
   ·clear kO kT
    refine Gd J4 (by rw[List.map_toArray];rfl) (Arp H.out.tab) (fun v w7 h=>?_) (fun ch w7 h=>by obtain⟨_,h,_⟩:=h;cases h) (fun w7 h=>by obtain⟨_,h,_⟩:=h;cases h)
    obtain⟨_,e7,hb7,rfl⟩:=h
    cases e7
    replace B1:=Avp (B1.out.le hb7);replace X:=Avp (X.out.mono hb7);replace Z:=Avp (Z.out.mono hb7);replace H:=Avp (H.out.mono hb7);replace G:=Avp (G.out.mono hb7);replace HD:=Avp (HD.out.mono hb7)
    replace Y:=Avp (Y.out.mono hb7)
    have kO:=H.out.kO
    clear hb7
    simp only[Act.put,List.setIfInBounds_toArray,List.set_cons_zero,List.set_cons_succ]
    refine Cu (i:=3) (by kernel_rfl) rfl rfl ?_
    refine Dz (v:=.pointer (some ⟨q.O,0,none⟩)) (by simp only[execOp,Act.eval];simp[Act.eval,go_sem,kO]) ?_
    simp only[Act.put,List.setIfInBounds_toArray,List.set_cons_zero,List.set_cons_succ]
    refine Cu (i:=9) (by kernel_rfl) rfl rfl ?_
    refine Gd Kd (by rw[List.map_toArray];rfl) (Aby H.out.out G.out.nm.ok) (fun v w8 h=>?_) (fun ch w8 h=>by cases h.1) (fun w8 h=>by cases h.1)
    obtain⟨e8,hw8⟩:=h
    cases e8
    have hk8:=Di.ofWrote (q:=q) hw8 (.inr (.inr (.inr (.inr (.inr rfl)))))
    have BX:=Avp (Ae (Ak B1.out WB.out) (hk8.below (by have:=WB.out;have:=B1.out.size;omega) HB.out))
    replace Y:=Avp (hk8.bx Y.out (by have:=WS.out;have:=JL.out;omega))
    replace Z:=Avp (hk8.bx Z.out (by have:=WS.out;have:=EN.out;omega))
    clear hk8 hw8
    simp only[Act.put,List.setIfInBounds_toArray,List.set_cons_zero,List.set_cons_succ]
    refine Ap (i:=10) rfl rfl (by kernel_rfl) (fun _ _ _ h=>h) (v:=.tuple #[.slice none 0 0,.int .i64 0]) (fun w=>by simp[execOp,Act.eval,go_sem]) ?_
    refine Ap (i:=11) rfl rfl (by kernel_rfl) (fun _ _ _ h=>h) (v:=.slice none 0 0) (fun w=>by simp[execOp,Act.eval,Act.put,go_sem]) ?_
    refine Ap (i:=12) rfl rfl (by kernel_rfl) (fun _ _ _ h=>h) (v:=.int .i64 0) (fun w=>by simp[execOp,Act.eval,Act.put,go_sem]) ?_
    refine Ap (i:=13) rfl rfl (by kernel_rfl) (fun _ _ _ h=>h) (v:=.slice none 0 0) (fun w=>by simp[execOp,Act.eval,Act.put,go_sem]) ?_
    refine Cu (i:=14) (by kernel_rfl) rfl rfl ?_
    simp only[Act.put,List.setIfInBounds_toArray,List.set_cons_zero,List.set_cons_succ]
    refine Dz (v:=.int .i64 0) (by simp[execOp,Act.eval,go_sem]) ?_
    simp only[Act.put,List.setIfInBounds_toArray,List.set_cons_zero,List.set_cons_succ]
    refine⟨by kernel_rfl,?_⟩
    have y0:=Y.out.cell 0 rfl;have y1:=Y.out.cell 1 rfl;have y2:=Y.out.cell 2 rfl;have y3:=Y.out.cell 3 rfl;have y4:=Y.out.cell 4 rfl
    have f2:=Y.out.fr 2 (by simp);have f4:=Y.out.fr 4 (by simp)
    obtain⟨yy,uy⟩:=Y.out.one (j:=4) (v:=.slice none 0 0) (by simp)
    obtain⟨yy2,uy2⟩:=yy.one (j:=2) (v:=.int .i64 0) (by simp)
    have jl:=JL.out
    have ZZ:=Avp (uy2.bx (uy.bx Z.out (by omega)) (by omega))
    have BB:=Avp (Ae BX.out (Ae (uy.below (by have:=WB.out;omega)) (uy2.below (by have:=WB.out;omega))))
    clear yy uy yy2 uy2 jl kO
    go_wp2_with ((with_reducible refine Ai (N+1) ?_ ?_);(next=>rfl))
    unfold Az
    refine Af (J:=N+1) rfl rfl rfl rfl rfl ZZ.out (show(Tryz.prog.info? 60).map (·.size)=some 5 by kernel_rfl) rfl (by simp[Value.oneCell']) ?_
    intro w9 hx9 hu9
    have X9:=Avp hx9;have U9:=Avp hu9
    clear hx9 hu9
    go_wp2
    refine bodyPost_ret (v:=.tuple #[.agg #[.int .i64 10,.int .i64 0,.int .i64 0,.slice none 0 0,.slice none 0 0],.int .i64 0]) ?_ rfl ?_
    ·exact Ah Tryz.results80 rfl rfl X9.out Tryz.underlying60 rfl (show(Tryz.prog.info? 60).map (·.size)=some 5 by kernel_rfl)
    have en:=EN.out
    exact⟨⟨_,rfl⟩,Ae BB.out (U9.out.below (by have:=WB.out;omega))⟩
 ·skip
  clear q1 q2 q3 q4 q5
  go_wp2_with ((with_reducible refine Ai (N+1) ?_ ?_);(next=>rfl))
  unfold Az
  refine Af (J:=N+1) rfl rfl rfl rfl rfl Z.out (show(Tryz.prog.info? 60).map (·.size)=some 5 by kernel_rfl) rfl (by simp[Value.oneCell']) ?_
  intro w9 hx9 hu9
  have X9:=Avp hx9;have U9:=Avp hu9
  clear hx9 hu9
  clear q0
  go_wp2
  refine bodyPost_ret (v:=.tuple #[.agg #[.int .i64 10,.int .i64 e,.int .i64 0,.slice none 0 0,.slice none 0 0],.int .i64 0]) ?_ rfl ?_
  ·exact Ah Tryz.results80 rfl rfl X9.out Tryz.underlying60 rfl (show(Tryz.prog.info? 60).map (·.size)=some 5 by kernel_rfl)
  have en:=EN.out
  exact⟨⟨_,rfl⟩,Ae (Ak B1.out WB.out) (U9.out.below (by have:=WB.out;omega))⟩
theorem Ag.bx1 {w:World} {B g cap:Nat} {e:EnE} (h:Ag encE 143 w B (.slice (some ⟨g,0,none⟩) 1 cap) [e]):Bx w g (enC e).toList:=by
 have h':w.ownsRow B 143 4 (.slice (some ⟨g,0,none⟩) 1 cap) 1 (encE.all [e]):=h
 have ea:encE.all [e]=(enC e).toList:=by simp[Enc.all,encE]
 rw[ea] at h'
 refine⟨fun j v hj=>?_,fun j hj=>⟨?_,World.ownsRow.frozenAt h' _⟩,(World.ownsRow.lt h' g rfl).2⟩
 ·have:=World.ownsRow.cells h' rfl j v hj
  rwa [Bz] at this
 ·have:=World.ownsRow.cells h' rfl j _ (List.getElem?_eq_getElem hj)
  rw[Bz] at this
  rw[this];rfl
section
variable {ops:List Oper} {Fs:List VT} {w0:World} {a0:Act} {i:Nat} {d:Option Tmp} {ty:TypeId} {pos:String} {after:Array Edge} {g:Option (Nat×Bool)}
theorem Ob.minI {x y:Operand} {p q r:Int} (hw:Aa ops Fs w0 a0 i ⟨d,.call ⟨.builtin .min,#[x,y],#[3,3]⟩,ty,pos,after,g⟩) (hx:Has ops Fs w0 a0 i ⟨d,.call ⟨.builtin .min,#[x,y],#[3,3]⟩,ty,pos,after,g⟩ x (Is (.int .i64 p))) (hy:Has ops Fs w0 a0 i ⟨d,.call ⟨.builtin .min,#[x,y],#[3,3]⟩,ty,pos,after,g⟩ y (Is (.int .i64 q)))
  (h:min p q=r):Ob Tryz.prog ops Fs w0 a0 i ⟨d,.call ⟨.builtin .min,#[x,y],#[3,3]⟩,ty,pos,after,g⟩ (Is (.int .i64 r)):=
 Ob.stay hw fun a w cx=>⟨_,by
  have h1:a.eval x = .int .i64 p:=hx a w cx
  have h2:a.eval y = .int .i64 q:=hy a w cx
  generalize a.eval=ρ at h1 h2
  simp[execOp,resolve,invoke,builtin,h1,h2,go_sem,h],rfl⟩
end
theorem Agv {w:World} {a b c:Int} {x y:Operand} (h:IntKind.i64.wrap (a*b)=c):(eqGuard .mul 3 x y (.int .i64 a) (.int .i64 b)).run Tryz.prog w = .ok () w∧(Go.binOp .mul 3 (.int .i64 a) (.int .i64 b)).run Tryz.prog w = .ok (.int .i64 c) w:=by
 refine⟨by simp[eqGuard,go_sem],?_⟩
 simp[go_sem]
 exact h
theorem Ahh {w:World} {x y:Operand}:(eqGuard .rem 3 x y (.int .i64 0) (.int .i64 ((1:Nat):Int))).run Tryz.prog w = .ok () w∧(Go.binOp .rem 3 (.int .i64 0) (.int .i64 ((1:Nat):Int))).run Tryz.prog w = .ok (.int .i64 0) w:=by
 refine⟨by simp[eqGuard,go_sem],?_⟩
 simp[go_sem]
theorem Td.ofBx {w:World} {J:Nat} {e:EnE} (h:Bx w J (enC e).toList):Td w J e:=⟨h.cell 0 rfl,h.cell 1 rfl,h.cell 2 rfl,h.cell 3 rfl⟩
theorem Ats {D:Nat->Prop} {w:World} {I:Nat} {A:Option Addr} {c:Nat} {e:EnE} (h:Bx w I [.int .i64 1,.slice none 0 0,.int .i64 0,.int .i64 0]) (hs:Sl encE w A 1 c [e]) (he:Jj D w e) (hn:Bk w):Calls Tryz.prog 131 #[.pointer (some ⟨I,0,none⟩),.slice A 1 c] w (Amc I w):=by
 have F1:=Avp (Aiq h)
 have F2:=Avp (fun w1 (hb:Below w.heap.size w w1)=>Adf (hs.mono hb) (by omega))
 have F3:=Avp (fun w1 (hb:Below w.heap.size w w1)=>Ac5 (h.mono hb))
 have F4:=Avp (fun w1 (hb:Below w.heap.size w w1)=>Auk (he.mono hb fun _ x=>x) (hn.mono hb))
 have H:=Avp h
 have IL:=Avp h.lt
 clear h hs he hn
 go_enter Tryz.func131,Tryz.ntmps131
 go_wp2_with fail
 refine F1.out.mono ?_
 rintro _ w1 ⟨_,rfl,hb1,rfl⟩
 have B:=Avp hb1
 clear hb1 F1
 go_wp2_with fail
 refine(F2.out w1 B.out).mono ?_
 rintro _ w2 ⟨v2,rfl,hb2,hv2⟩
 obtain⟨g,c2,rfl,hg1,hg2⟩:=Ag.head (l:=[e]) hv2 (by simp)
 simp only[List.length_singleton] at hv2 ⊢
 have GX:=Avp (Ag.bx1 hv2)
 have GL:=Avp (show w.heap.size<=g by have:=B.out.size;omega)
 replace B:=Avp (B.out.le hb2)
 have IG:=Avp (fun w5=>show(Instr.indexAt 118 (.slice (some ⟨g,0,none⟩) 1 c2) (.int .i64 0)).run Tryz.prog w5 = .ok (.pointer (some ⟨g,0,none⟩)) w5 by simp[go_sem])
 clear hb2 hv2 F2 hg1 hg2
 go_wp2
 go_loopw [20] (fun i wr=>∃ (y:EnE) (k:Nat),i = .int .i64 k∧k<=1∧Bx wr g (enC y).toList∧(k=0->y=e)∧Below w.heap.size w wr) (fun i _=>1 - (intOf i).toNat)
 case atStart=>exact⟨e,0,rfl,by omega,GX.out,fun _=>rfl,B.out⟩
 case round=>
  obtain⟨y,k,rfl,hk,hgx,hye,hb⟩:=hrel
  replace B:=Avp hb
  replace GX:=Avp hgx
  clear hb hgx
  have ig:=IG.out wr
  cases k with
  | zero=>
   have hy:=hye rfl
   subst hy
   clear hye
   have ga:=Td.ofBx GX.out
   have y0:=ga.c0;have y1:=ga.c1;have y2:=ga.c2;have y3:=ga.c3
   have hb3:Below wr.heap.size wr (wr.alloc (.cells (enC y) 143)):=by go_grown
   have B3:=Avp (B.out.le hb3)
   have GX3:=Avp (GX.out.mono hb3)
   clear ga hb3
   go_wp2_with fail
   refine(F4.out _ B3.out).mono ?_
   rintro _ w4 ⟨_,rfl,hb4,e4,b4,rfl,_⟩
   have B4:=Avp (B3.out.le hb4)
   have GX4:=Avp (GX3.out.mono hb4)
   clear hb4 y0 y1 y2 y3
   cases b4 with
   | false=>
    go_wp2
    go_ret
    exact⟨⟨_,rfl⟩,An.ofBelow (B4.out.le (by go_grown))⟩
   | true=>
    have hb5:Below w4.heap.size w4 (w4.alloc (.cells (enC e4) 143)):=by go_grown
    have B5:=Avp (B4.out.le hb5)
    have GX5:=Avp (GX4.out.mono hb5)
    have ig5:=IG.out (w4.alloc (.cells (enC e4) 143))
    clear hb5 ig
    go_wp2_with ((with_reducible refine Ai (g) ?_ ?_);(next=>rfl))
    unfold Az
    refine Af (J:=g) rfl rfl rfl rfl rfl GX5.out (show(Tryz.prog.info? 143).map (·.size)=some 4 by kernel_rfl) rfl (by simp[Value.oneCell']) ?_
    intro w9 hx9 hu9
    have X9:=Avp hx9;have U9:=Avp hu9
    clear hx9 hu9
    clear ig5
    go_wp2
    go_roundw
    case rel=>exact⟨e4,1,rfl,by omega,X9.out,fun h=>by omega,Ae B5.out (U9.out.below GL.out)⟩
    case measure=>simp[intOf]
  | succ k=>
   have hk0:k=0:=by omega
   subst hk0
   clear hye hk ig
   go_wp2_with fail
   refine(F3.out wr B.out).mono ?_
   rintro _ w3 ⟨_,rfl,hb3,rfl⟩
   replace B:=Avp (B.out.le hb3)
   replace GX:=Avp (GX.out.mono hb3)
   have H3:=Avp (H.out.mono B.out)
   have I0:=Avp (H3.out.cell 0 rfl);have I1:=Avp (H3.out.cell 1 rfl);have I3:=Avp (H3.out.cell 3 rfl)
   clear hb3 F3
   go_wp2_with fail
   refine Am mixed (by kernel_rfl) ?_
   refine Ab.step (Ob.move Aa.free Has.oldIs) ?_
   refine Ab.step (Ob.nilV Aa.free (Has.new 0 0)) ?_
   refine Ab.step (Ob.fieldV Aa.free (Has.new 1 0) (fun w1=>Iq)) ?_
   refine Ab.step (Ob.loadV Aa.free (Has.new 2 0) (fun w1 hb1=>Ew hb1 I3.out)) ?_
   refine Ab.step (Ob.move Aa.free Has.oldIs) ?_
   refine Ab.step (Ob.lenE Aa.free (Has.new 4 0) trivial) ?_
   refine Ab.step (Ob.binV Aa.free (Has.new 3 2) (Has.new 5 0) (fun w1=>Ht (c:=1) (by decide))) ?_
   refine Ab.step (Ob.move Aa.free Has.oldIs) ?_
   refine Ab.step (Ob.nilV Aa.free (Has.new 7 0)) ?_
   refine Ab.step (Ob.fieldV Aa.free (Has.new 8 0) (fun w1=>Kw)) ?_
   refine Ab.step (Ob.loadV Aa.free (Has.new 9 0) (fun w1 hb1=>Ki hb1 I1.out)) ?_
   refine Ab.step (Ob.lenE Aa.free (Has.new 10 0) trivial) ?_
   refine Ab.step (Ob.binV Aa.free (Has.new 6 5) (Has.new 11 0) (fun w1=>Adp true (by decide))) ?_
   simp only[Ab,Ao,List.map,Bq,List.reverse_cons,List.reverse_nil,List.nil_append,List.cons_append]
   intro wE hE
   iterate 13 (rintro _ rfl)
   simp only[Act.put,List.setIfInBounds_toArray,List.set_cons_zero,List.set_cons_succ]
   replace B:=Avp (B.out.le hE)
   replace GX:=Avp (GX.out.mono hE)
   replace I0:=Avp (Ad hE I0.out);replace I3:=Avp (Ad hE I3.out)
   clear hE I1 H3
   go_wp2_with fail
   refine Bu 13 mixed (by kernel_rfl) (by kernel_rfl) ?_
   refine Al.step (Ob.move Aa.free Has.oldIs) ?_
   refine Al.step (Ob.nilV Aa.free (Has.new 0 0)) ?_
   refine Al.step (Ob.fieldV Aa.free (Has.new 1 0) (fun w1=>T7)) ?_
   refine Al.step (Ob.loadV Aa.free (Has.new 2 0) (fun w1 hb1=>Ew hb1 I0.out)) ?_
   refine Al.step (Ob.move Aa.free Has.oldIs) ?_
   refine Al.step (Ob.nilV Aa.free (Has.new 4 0)) ?_
   refine Al.step (Ob.fieldV Aa.free (Has.new 5 0) (fun w1=>Iq)) ?_
   refine Al.step (Ob.loadV Aa.free (Has.new 6 0) (fun w1 hb1=>Ew hb1 I3.out)) ?_
   refine Al.step (Ob.move Aa.free Has.oldIs) ?_
   refine Al.step (Ob.lenE Aa.free (Has.new 8 0) trivial) ?_
   refine Al.step (Ob.binV Aa.free (Has.new 7 2) (Has.new 9 0) (fun w1=>Ht (c:=1) (by decide))) ?_
   refine Al.step (Ob.binV Aa.free (Has.cst _) (Has.new 10 0) (fun w1=>Agv (c:=2) (by decide))) ?_
   refine Al.step (Ob.minI Aa.free (Has.new 3 8) (Has.new 11 0) (r:=1) (by decide)) ?_
   simp only[Al,Ao,List.map,Bq,List.reverse_cons,List.reverse_nil,List.nil_append,List.cons_append,List.take_succ_cons,List.take_zero,List.drop_succ_cons,List.drop_zero]
   intro wE hE
   iterate 13 (rintro _ rfl)
   simp only[Act.put,List.setIfInBounds_toArray,List.set_cons_zero,List.set_cons_succ]
   replace B:=Avp (B.out.le hE)
   replace GX:=Avp (GX.out.mono hE)
   clear hE I0 I3
   obtain⟨i,hi,hz,hsz,hby⟩:=info_parts (P:=Tryz.prog) (show(Tryz.prog.info? 143).map (fun i=>(i.zero,i.size,i.bytes))=some (some (.agg enZ),4,88) by kernel_rfl)
   refine wpList_make_full wE rfl _ _ 118 rfl wE.heap.size 143 i _ 4 Tryz.underlying118 hi hz hsz .i64 .i64 1 1 1 rfl rfl rfl rfl (by rw[hby];omega) (by unfold maxLen;omega) (Nat.le_refl _) ?_
   intro w6 ho hg
   obtain⟨r,hr⟩:∃ r,r=wE.heap.size:=⟨_,rfl⟩
   have RL:=Avp (show w.heap.size<=r∧g<r by rw[hr];exact⟨B.out.size,GX.out.lt⟩)
   rw[<-hr] at ho ⊢
   rw[show(madeCells (Value.agg enZ).cells (1*4)).toList=enZ.toList by kernel_rfl] at ho
   have RX:=Avp (show Bx w6 r enZ.toList from⟨fun j v hj=>by
     have:=World.ownsRow.cells ho rfl j v hj
     rwa [Bz] at this,fun j hj=>by
     have:=World.ownsRow.cells ho rfl j _ (List.getElem?_eq_getElem hj)
     rw[Bz] at this
     exact⟨by rw[this];rfl,World.ownsRow.frozenAt ho _⟩,(World.ownsRow.lt ho r rfl).2⟩)
   have hb6:Below wE.heap.size wE w6:=(Below.refl _ _).grown hg (Nat.le_refl _) (fun q hq=>nomatch hq)
   replace B:=Avp (B.out.le hb6)
   replace GX:=Avp (GX.out.mono hb6)
   have HX:=Avp (H.out.mono B.out)
   have i3:=HX.out.cell 3 rfl;have i1:=HX.out.cell 1 rfl;have i2:=HX.out.cell 2 rfl;have if1:=HX.out.fr 1 (by simp);have if2:=HX.out.fr 2 (by simp)
   clear ho hg hi hz hsz hby hr hb6
   go_wp2
   go_loopw [73] (fun i wr=>i = .int .i64 0∧wr=w6) (fun _ _=>0)
   case atStart=>exact⟨rfl,rfl⟩
   case round=>
    obtain⟨rfl,rfl⟩:=hrel
    go_wp2
    obtain⟨x7,u7⟩:=HX.out.one (j:=1) (v:=.slice (some ⟨r,0,none⟩) 1 1) (by simp)
    obtain⟨x8,u8⟩:=x7.one (j:=2) (v:=.int .i64 0) (by simp)
    have il:=IL.out;have rl:=RL.out;have gl:=GL.out
    have X8:=Avp (show Bx _ I [.int .i64 1,.slice (some ⟨r,0,none⟩) 1 1,.int .i64 0,.int .i64 0] from x8)
    have R8:=Avp (u8.bx (u7.bx RX.out (by omega)) (by omega))
    have G8:=Avp (u8.bx (u7.bx GX.out (by omega)) (by omega))
    have W8:=Avp (show An I none w _ from((An.ofBelow B.out:An I none w _).setAny (o:=1) (.slice (some ⟨r,0,none⟩) 1 1)).setAny (o:=2) (.int .i64 0))
    clear x7 u7 x8 u8 i1 i2 i3 if1 if2 il rl gl
    go_loopw [107] (fun i wr=>∃ k:Nat,i = .int .i64 k∧k<=1∧An I none w wr∧(k=0->Bx wr I [.int .i64 1,.slice (some ⟨r,0,none⟩) 1 1,.int .i64 0,.int .i64 0]∧Bx wr r enZ.toList∧Bx wr g (enC y).toList)) (fun i _=>1 - (intOf i).toNat)
    case atStart=>exact⟨0,rfl,by omega,W8.out,fun _=>⟨X8.out,R8.out,G8.out⟩⟩
    case round=>
     obtain⟨k,rfl,hk,hw,hx⟩:=hrel
     have W9:=Avp hw
     clear hw
     cases k with
     | zero=>
      obtain⟨hx1,hx2,hx3⟩:=hx rfl
      have ga:=Td.ofBx hx3
      have hb9:Below wr.heap.size wr (wr.alloc (.cells (enC y) 143)):=by go_grown
      have X9':=Avp (hx1.mono hb9);have R9:=Avp (hx2.mono hb9)
      have XA:=Avp (Td.ofBx (Bx.new wr (enC y) 143))
      have WA:=Avp (W9.out.le (Ak hb9 W9.out.size))
      have y0:=ga.c0;have y1:=ga.c1;have y2:=ga.c2;have y3:=ga.c3
      have ig:=IG.out wr
      have I1:=Avp (X9'.out.cell 1 rfl);have I2:=Avp (X9'.out.cell 2 rfl);have I3:=Avp (X9'.out.cell 3 rfl)
      have IR:=Avp (fun w5=>show(Instr.indexAt 118 (.slice (some ⟨r,0,none⟩) 1 1) (.int .i64 0)).run Tryz.prog w5 = .ok (.pointer (some ⟨r,0,none⟩)) w5 by simp[go_sem])
      clear hx1 hx2 hx3 hx ga hb9
      go_wp2_with fail
      refine Bu 21 mixed (by kernel_rfl) (by kernel_rfl) ?_
      refine Al.step (Ob.move Aa.free Has.oldIs) ?_
      refine Al.step (Ob.nilV Aa.free (Has.new 0 0)) ?_
      refine Al.step (Ob.fieldV Aa.free (Has.new 1 0) (fun w1=>Kw)) ?_
      refine Al.step (Ob.loadV Aa.free (Has.new 2 0) (fun w1 hb1=>Ki hb1 I1.out)) ?_
      refine Al.step (Ob.move Aa.free Has.oldIs) ?_
      refine Al.step (Ob.nilV Aa.free (Has.new 4 0)) ?_
      refine Al.step (Ob.fieldV Aa.free (Has.new 5 0) (fun w1=>Aft)) ?_
      refine Al.step (Ob.loadV Aa.free (Has.new 6 0) (fun w1 hb1=>Ew hb1 I2.out)) ?_
      refine Al.step (Ob.move Aa.free Has.oldIs) ?_
      refine Al.step (Ob.nilV Aa.free (Has.new 8 0)) ?_
      refine Al.step (Ob.fieldV Aa.free (Has.new 9 0) (fun w1=>Iq)) ?_
      refine Al.step (Ob.loadV Aa.free (Has.new 10 0) (fun w1 hb1=>Ew hb1 I3.out)) ?_
      refine Al.step (Ob.binV Aa.free (Has.new 7 4) (Has.new 11 0) (fun w1=>Ht (c:=0) (by decide))) ?_
      refine Al.step (Ob.move Aa.free Has.oldIs) ?_
      refine Al.step (Ob.nilV Aa.free (Has.new 13 0)) ?_
      refine Al.step (Ob.fieldV Aa.free (Has.new 14 0) (fun w1=>Kw)) ?_
      refine Al.step (Ob.loadV Aa.free (Has.new 15 0) (fun w1 hb1=>Ki hb1 I1.out)) ?_
      refine Al.step (Ob.lenE Aa.free (Has.new 16 0) trivial) ?_
      refine Al.step (Ob.binV Aa.free (Has.new 12 5) (Has.new 17 0) (fun w1=>Ahh)) ?_
      refine Al.step (Ob.loadV Aa.free Has.oldIs (fun w1 hb1=>An3 hb1 XA.out.c0 XA.out.c1 XA.out.c2 XA.out.c3)) ?_
      refine Al.step (Ob.indexV Aa.free (Has.new 3 16) (Has.new 18 1) (fun w1=>IR.out w1)) ?_
      simp only[Al,Ao,List.map,Bq,List.reverse_cons,List.reverse_nil,List.nil_append,List.cons_append,List.take_succ_cons,List.take_zero,List.drop_succ_cons,List.drop_zero]
      intro wE hE
      iterate 21 (rintro _ rfl)
      simp only[Act.put,List.setIfInBounds_toArray,List.set_cons_zero,List.set_cons_succ]
      have RE:=Avp (R9.out.mono hE);have XE:=Avp (X9'.out.mono hE)
      have WE:=Avp (WA.out.le (Ak hE WA.out.size))
      clear hE y0 y1 y2 y3 ig
      go_wp2_with ((with_reducible refine Ai (r) ?_ ?_);(next=>rfl))
      unfold Az
      refine Af (J:=r) rfl rfl rfl rfl rfl RE.out (show(Tryz.prog.info? 143).map (·.size)=some 4 by kernel_rfl) rfl (by simp[Value.oneCell']) ?_
      intro w9 hx9 hu9
      have X9:=Avp hx9;have U9:=Avp hu9
      clear hx9 hu9
      have il:=IL.out;have rl:=RL.out
      have XF:=Avp (U9.out.bx XE.out (by omega))
      have WF:=Avp (WE.out.le (U9.out.below rl.1))
      have i3:=XF.out.cell 3 rfl;have if3:=XF.out.fr 3 (by simp)
      clear il rl
      go_wp2
      go_roundw
      case rel=>exact⟨1,rfl,by omega,WF.out.setAny (o:=3) _,fun h=>by omega⟩
      case measure=>simp[intOf]
     | succ k=>
      have hk0:k=0:=by omega
      subst hk0
      clear hx hk
      go_wp2
      go_ret
      exact⟨⟨_,rfl⟩,W9.out⟩
theorem Apm {D:Nat->Prop} {w:World} {I:Nat} {A:Option Addr} {n c:Nat} {l:List EnS} (h:Bx w I [.int .i64 1,.slice none 0 0,.int .i64 0,.int .i64 0]) (he:Cb D w A n c l) (hn:Bk w) (hl:l.length<=1):Calls Tryz.prog 131 #[.pointer (some ⟨I,0,none⟩),.slice A n c] w (Amc I w):=by
 have hln:=he.len
 obtain⟨es,rfl,h1,h2,h3⟩:=he
 match es,hl,hln,h1,h2,h3 with
 | [],_,hln,h1,_,_=>
  have:n=0:=hln
  subst this
  exact As4 h h1
 | [e],_,hln,h1,_,h3=>
  have:n=1:=hln
  subst this
  exact Ats h h1 (h3 e (by simp)) hn
 | _::_::_,hl,_,_,_,_=>simp at hl
theorem Aux
  {B:Nat} {w:World} {q:NPl} {n:Int} (key other item data:List UInt8) (qty:Int) (ln:Nat) (A:Option Addr) (m:Nat) (h:FN w q n) (g:Cr w) (hC:q.C≠q.N) (hB:B<=q.N∧B<=q.T∧B<=q.M∧B<=q.O∧B<=q.C∧B<=q.I) (hg:2<B∧1<B) (hn:0<=n∧n<=1000) (hk:key.length<=300) (ho:other.length<=300) (hi:item.length<=300) (hd:Sl encB w A ln m data) (hdl:data.length<=300) (hf:Br ⟨8,key,other,item,qty,data⟩=true)
  :
  Calls Tryz.prog 80 #[.pointer (some ⟨q.N,0,none⟩),.agg #[.int .i64 8,Ac key,Ac other,Ac item,.int .i64 qty,.slice A ln m]] w (DoP B 0 w)
  :=by
 have hln:=hd.len
 obtain⟨w1,hw1⟩:∃ w1,w1=(w.alloc (.cells #[.int .i64 8,Ac key,Ac other,Ac item,.int .i64 qty,.slice A ln m] 25)).alloc (.cells ansZ 60):=⟨_,rfl⟩
 obtain⟨N,hN⟩:∃ N,N=w.heap.size:=⟨_,rfl⟩
 have hb1:Below w.heap.size w w1:=by rw[hw1];go_grown
 have X:=Avp (show Bx w1 N [.int .i64 8,Ac key,Ac other,Ac item,.int .i64 qty,.slice A ln m] by rw[hw1,hN];exact(Bx.new w _ 25).mono (by go_grown))
 have Z:=Avp (show Bx w1 (N+1) ansZ.toList by rw[hw1,hN];have:=Bx.new (w.alloc (.cells #[.int .i64 8,Ac key,Ac other,Ac item,.int .i64 qty,.slice A ln m] 25)) ansZ 60;rw[World.size_alloc] at this;exact this)
 have F0:=Avp (J6 (h.mono hb1).kT)
 have B1:=Avp hb1
 have F1:=Avp (fun w2=>Fg ⟨8,key,other,item,qty,data⟩ A m w2)
 rw[hf] at F1
 unfold Aq at F1
 simp only at F1
 rw[<-hln] at F1
 have H:=Avp (h.mono hb1);have G:=Avp (g.mono hb1);have HN:=Avp hn;have HCN:=Avp hC;have G0:=Avp g
 have HK:=Avp hk;have HI:=Avp hi;have HO:=Avp ho;have HD:=Avp (hd.mono hb1);have HDL:=Avp hdl;have HB:=Avp hB;have HG:=Avp hg;have WS:=Avp h.lts
 have WB:=Avp (show B<=w.heap.size by have:=h.lts;omega)
 have EN:=Avp hN;have HW:=Avp hw1
 clear h hB hf hb1 hw1 g hC hn hk ho hi hd hdl hg hln
 go_enter Tryz.func80,Tryz.ntmps80
 go_wp2_with fail
 rw[<-hN,<-HW.out]
 clear hN HW
 refine F0.out.mono ?_
 rintro _ w2 ⟨_,rfl,hb2,rfl⟩
 replace B1:=Avp (B1.out.le hb2);replace X:=Avp (X.out.mono hb2);replace Z:=Avp (Z.out.mono hb2);replace H:=Avp (H.out.mono hb2);replace G:=Avp (G.out.mono hb2);replace HD:=Avp (HD.out.mono hb2)
 have q0:=X.out.cell 0 rfl;have q1:=X.out.cell 1 rfl;have q2:=X.out.cell 2 rfl;have q3:=X.out.cell 3 rfl;have q4:=X.out.cell 4 rfl;have q5:=X.out.cell 5 rfl
 clear hb2 F0
 go_wp2_with fail
 refine(F1.out _).mono ?_
 rintro _ w3 ⟨_,rfl,hb3,rfl⟩
 replace B1:=Avp (B1.out.le hb3);replace X:=Avp (X.out.mono hb3);replace Z:=Avp (Z.out.mono hb3);replace H:=Avp (H.out.mono hb3);replace G:=Avp (G.out.mono hb3);replace HD:=Avp (HD.out.mono hb3)
 replace q0:=X.out.cell 0 rfl;replace q1:=X.out.cell 1 rfl;replace q2:=X.out.cell 2 rfl;replace q3:=X.out.cell 3 rfl;replace q4:=X.out.cell 4 rfl;replace q5:=X.out.cell 5 rfl
 have F2:=Avp (Anh key other item data qty ln A m H.out G.out HK.out HO.out HI.out HD.out HDL.out)
 clear hb3 F1
 go_wp2_with fail
 refine F2.out.mono ?_
 rintro _ w4 ⟨_,rfl,hb4,e,rfl⟩
 replace B1:=Avp (B1.out.le hb4);replace X:=Avp (X.out.mono hb4);replace Z:=Avp (Z.out.mono hb4);replace H:=Avp (H.out.mono hb4);replace G:=Avp (G.out.mono hb4);replace HD:=Avp (HD.out.mono hb4)
 replace q0:=X.out.cell 0 rfl;replace q1:=X.out.cell 1 rfl;replace q2:=X.out.cell 2 rfl;replace q3:=X.out.cell 3 rfl;replace q4:=X.out.cell 4 rfl;replace q5:=X.out.cell 5 rfl
 clear hb4 F2
 by_cases he:e=0
 ·subst he
  cases hdc:Gy data with
  | none=>
   have F3:=Avp (Sj key other item data qty ln A m H.out G.out HN.out HK.out HO.out HI.out HD.out HDL.out)
   rw[hdc] at F3
   go_wp2_with fail
   refine F3.out.mono ?_
   rintro _ w5 ⟨_,rfl,hb5,hv5⟩
   replace B1:=Avp (B1.out.le hb5);replace X:=Avp (X.out.mono hb5);replace Z:=Avp (Z.out.mono hb5);replace H:=Avp (H.out.mono hb5);replace G:=Avp (G.out.mono hb5);replace HD:=Avp (HD.out.mono hb5)
   replace q0:=X.out.cell 0 rfl;replace q1:=X.out.cell 1 rfl;replace q2:=X.out.cell 2 rfl;replace q3:=X.out.cell 3 rfl;replace q4:=X.out.cell 4 rfl;replace q5:=X.out.cell 5 rfl
   clear hb5 F3
   have:hv5=hv5:=rfl
   cases hv5
   have F4:=Avp (fun w6 (hb:Below w5.heap.size w5 w6)=>Mq (HD.out.mono hb) (by have:=HDL.out;omega) (G.out.mono hb).nm)
   rw[hdc] at F4
   unfold Afw at F4
   clear hdc
   simp only[Oi]
   have hb6:Below w5.heap.size w5 (w5.alloc (.cells #[.int .i64 8,.int .i64 0,.int .i64 0,.slice none 0 0,.slice none 0 0] 60)):=by go_grown
   have Y:=Avp (Bx.new w5 #[.int .i64 8,.int .i64 0,.int .i64 0,.slice none 0 0,.slice none 0 0] 60)
   have L5:=Avp (show w.heap.size<=w5.heap.size∧N+1<w5.heap.size from⟨B1.out.size,Z.out.lt⟩)
   replace B1:=Avp (B1.out.le hb6);replace X:=Avp (X.out.mono hb6);replace Z:=Avp (Z.out.mono hb6);replace H:=Avp (H.out.mono hb6);replace G:=Avp (G.out.mono hb6);replace HD:=Avp (HD.out.mono hb6)
   obtain⟨J,hJ⟩:∃ J,J=w5.heap.size:=⟨_,rfl⟩
   obtain⟨w6,hw6⟩:∃ w6,w6=w5.alloc (.cells #[.int .i64 8,.int .i64 0,.int .i64 0,.slice none 0 0,.slice none 0 0] 60):=⟨_,rfl⟩
   rw[<-hw6] at Y X Z H G HD B1
   rw[<-hJ] at Y
   have JL:=Avp (show w.heap.size<=J∧N+1<J by rw[hJ];exact L5.out)
   have lt0:N<w5.heap.size:=by have:=L5.out;omega
   have HW6:=Avp hw6;have HJ:=Avp hJ
   clear hb6 hw6 hJ L5
   have hb6:Below w5.heap.size w5 w6:=by rw[HW6.out];go_grown
   have F6:=Avp (F4.out w6 hb6)
   clear hb6 F4
   go_wp2_with fail
   rw[<-HJ.out,<-HW6.out]
   clear lt0 HW6 HJ
   replace q0:=X.out.cell 0 rfl;replace q1:=X.out.cell 1 rfl;replace q2:=X.out.cell 2 rfl;replace q3:=X.out.cell 3 rfl;replace q4:=X.out.cell 4 rfl;replace q5:=X.out.cell 5 rfl
   refine F6.out.mono ?_
   rintro _ w7 ⟨hb7,rfl⟩
   replace B1:=Avp (B1.out.le hb7);replace X:=Avp (X.out.mono hb7);replace Z:=Avp (Z.out.mono hb7);replace H:=Avp (H.out.mono hb7);replace G:=Avp (G.out.mono hb7);replace HD:=Avp (HD.out.mono hb7)
   replace q0:=X.out.cell 0 rfl;replace q1:=X.out.cell 1 rfl;replace q2:=X.out.cell 2 rfl;replace q3:=X.out.cell 3 rfl;replace q4:=X.out.cell 4 rfl;replace q5:=X.out.cell 5 rfl
   replace Y:=Avp (Y.out.mono hb7)
   have kI:=H.out.kI
   have F5:=Avp (Apm (l:=[]) (D:=fun _=>True) H.out.inb (Cb.nil_ _ _) G.out.nm.ok (by simp))
   clear hb7 F6
   go_wp2_with fail
   refine F5.out.mono ?_
   rintro _ w8 ⟨⟨k8,rfl⟩,hw8⟩
   have hk8:=Di.ofWrote (q:=q) hw8 (.inr (.inr (.inr (.inr (.inl rfl)))))
   have BX:=Avp (Ae (Ak B1.out WB.out) (hk8.below (by have:=WB.out;have:=B1.out.size;omega) HB.out))
   replace Y:=Avp (hk8.bx Y.out (by have:=WS.out;have:=JL.out;omega))
   replace Z:=Avp (hk8.bx Z.out (by have:=WS.out;have:=EN.out;omega))
   clear hk8 hw8 F5 kI q0 q1 q2 q3 q4 q5
   have y0:=Y.out.cell 0 rfl;have y1:=Y.out.cell 1 rfl;have y2:=Y.out.cell 2 rfl;have y3:=Y.out.cell 3 rfl;have y4:=Y.out.cell 4 rfl
   have f2:=Y.out.fr 2 (by simp)
   obtain⟨yy,uy⟩:=Y.out.one (j:=2) (v:=.int .i64 0) (by simp)
   have jl:=JL.out
   have ZZ:=Avp (uy.bx Z.out (by omega))
   have BB:=Avp (Ae BX.out (uy.below (by have:=WB.out;omega)))
   clear yy uy jl
   go_wp2_with ((with_reducible refine Ai (N+1) ?_ ?_);(next=>rfl))
   unfold Az
   refine Af (J:=N+1) rfl rfl rfl rfl rfl ZZ.out (show(Tryz.prog.info? 60).map (·.size)=some 5 by kernel_rfl) rfl (by simp[Value.oneCell']) ?_
   intro w9 hx9 hu9
   have X9:=Avp hx9;have U9:=Avp hu9
   clear hx9 hu9
   go_wp2
   refine bodyPost_ret (v:=.tuple #[.agg #[.int .i64 8,.int .i64 0,.int .i64 0,.slice none 0 0,.slice none 0 0],.int .i64 0]) ?_ rfl ?_
   ·exact Ah Tryz.results80 rfl rfl X9.out Tryz.underlying60 rfl (show(Tryz.prog.info? 60).map (·.size)=some 5 by kernel_rfl)
   have en:=EN.out
   exact⟨⟨_,rfl⟩,Ae BB.out (U9.out.below (by have:=WB.out;omega))⟩
  | some es=>
   by_cases hl:1<es.length
   ·skip
    have F3:=Avp (Sj key other item data qty ln A m H.out G.out HN.out HK.out HO.out HI.out HD.out HDL.out)
    rw[hdc] at F3
    go_wp2_with fail
    refine F3.out.mono ?_
    rintro _ w5 ⟨_,rfl,hb5,hv5⟩
    replace B1:=Avp (B1.out.le hb5);replace X:=Avp (X.out.mono hb5);replace Z:=Avp (Z.out.mono hb5);replace H:=Avp (H.out.mono hb5);replace G:=Avp (G.out.mono hb5);replace HD:=Avp (HD.out.mono hb5)
    replace q0:=X.out.cell 0 rfl;replace q1:=X.out.cell 1 rfl;replace q2:=X.out.cell 2 rfl;replace q3:=X.out.cell 3 rfl;replace q4:=X.out.cell 4 rfl;replace q5:=X.out.cell 5 rfl
    clear hb5 F3
    rw[show Oi (some es)=11 by simp[Oi,hl]] at hv5
    cases hv5
    clear hdc hl
    clear q1 q2 q3 q4 q5
    go_wp2_with ((with_reducible refine Ai (N+1) ?_ ?_);(next=>rfl))
    unfold Az
    refine Af (J:=N+1) rfl rfl rfl rfl rfl Z.out (show(Tryz.prog.info? 60).map (·.size)=some 5 by kernel_rfl) rfl (by simp[Value.oneCell']) ?_
    intro w9 hx9 hu9
    have X9:=Avp hx9;have U9:=Avp hu9
    clear hx9 hu9
    clear q0
    go_wp2
    refine bodyPost_ret (v:=.tuple #[.agg #[.int .i64 8,.int .i64 11,.int .i64 0,.slice none 0 0,.slice none 0 0],.int .i64 0]) ?_ rfl ?_
    ·exact Ah Tryz.results80 rfl rfl X9.out Tryz.underlying60 rfl (show(Tryz.prog.info? 60).map (·.size)=some 5 by kernel_rfl)
    have en:=EN.out
    exact⟨⟨_,rfl⟩,Ae (Ak B1.out WB.out) (U9.out.below (by have:=WB.out;omega))⟩
   ·skip
    have F3:=Avp (Sj key other item data qty ln A m H.out G.out HN.out HK.out HO.out HI.out HD.out HDL.out)
    rw[hdc] at F3
    go_wp2_with fail
    refine F3.out.mono ?_
    rintro _ w5 ⟨_,rfl,hb5,hv5⟩
    replace B1:=Avp (B1.out.le hb5);replace X:=Avp (X.out.mono hb5);replace Z:=Avp (Z.out.mono hb5);replace H:=Avp (H.out.mono hb5);replace G:=Avp (G.out.mono hb5);replace HD:=Avp (HD.out.mono hb5)
    replace q0:=X.out.cell 0 rfl;replace q1:=X.out.cell 1 rfl;replace q2:=X.out.cell 2 rfl;replace q3:=X.out.cell 3 rfl;replace q4:=X.out.cell 4 rfl;replace q5:=X.out.cell 5 rfl
    clear hb5 F3
    rw[show Oi (some es)=0 by simp[Oi,hl]] at hv5
    cases hv5
    have F4:=Avp (fun w6 (hb:Below w5.heap.size w5 w6)=>Mq (HD.out.mono hb) (by have:=HDL.out;omega) (G.out.mono hb).nm)
    rw[hdc] at F4
    unfold Afw at F4
    have HL:=Avp (show es.length<=1 by omega)
    clear hdc hl
    have hb6:Below w5.heap.size w5 (w5.alloc (.cells #[.int .i64 8,.int .i64 0,.int .i64 0,.slice none 0 0,.slice none 0 0] 60)):=by go_grown
    have Y:=Avp (Bx.new w5 #[.int .i64 8,.int .i64 0,.int .i64 0,.slice none 0 0,.slice none 0 0] 60)
    have L5:=Avp (show w.heap.size<=w5.heap.size∧N+1<w5.heap.size from⟨B1.out.size,Z.out.lt⟩)
    replace B1:=Avp (B1.out.le hb6);replace X:=Avp (X.out.mono hb6);replace Z:=Avp (Z.out.mono hb6);replace H:=Avp (H.out.mono hb6);replace G:=Avp (G.out.mono hb6);replace HD:=Avp (HD.out.mono hb6)
    obtain⟨J,hJ⟩:∃ J,J=w5.heap.size:=⟨_,rfl⟩
    obtain⟨w6,hw6⟩:∃ w6,w6=w5.alloc (.cells #[.int .i64 8,.int .i64 0,.int .i64 0,.slice none 0 0,.slice none 0 0] 60):=⟨_,rfl⟩
    rw[<-hw6] at Y X Z H G HD B1
    rw[<-hJ] at Y
    have JL:=Avp (show w.heap.size<=J∧N+1<J by rw[hJ];exact L5.out)
    have lt0:N<w5.heap.size:=by have:=L5.out;omega
    have HW6:=Avp hw6;have HJ:=Avp hJ
    clear hb6 hw6 hJ L5
    have hb6:Below w5.heap.size w5 w6:=by rw[HW6.out];go_grown
    have F6:=Avp (F4.out w6 hb6)
    clear hb6 F4
    go_wp2_with fail
    rw[<-HJ.out,<-HW6.out]
    clear lt0 HW6 HJ
    replace q0:=X.out.cell 0 rfl;replace q1:=X.out.cell 1 rfl;replace q2:=X.out.cell 2 rfl;replace q3:=X.out.cell 3 rfl;replace q4:=X.out.cell 4 rfl;replace q5:=X.out.cell 5 rfl
    refine F6.out.mono ?_
    rintro _ w7 ⟨hb7,v7,rfl,A7,n7,c7,rfl,he7⟩
    replace B1:=Avp (B1.out.le hb7);replace X:=Avp (X.out.mono hb7);replace Z:=Avp (Z.out.mono hb7);replace H:=Avp (H.out.mono hb7);replace G:=Avp (G.out.mono hb7);replace HD:=Avp (HD.out.mono hb7)
    replace q0:=X.out.cell 0 rfl;replace q1:=X.out.cell 1 rfl;replace q2:=X.out.cell 2 rfl;replace q3:=X.out.cell 3 rfl;replace q4:=X.out.cell 4 rfl;replace q5:=X.out.cell 5 rfl
    replace Y:=Avp (Y.out.mono hb7)
    have kI:=H.out.kI
    have F5:=Avp (Apm H.out.inb he7 G.out.nm.ok HL.out)
    clear hb7 F6 he7
    go_wp2_with fail
    refine F5.out.mono ?_
    rintro _ w8 ⟨⟨k8,rfl⟩,hw8⟩
    have hk8:=Di.ofWrote (q:=q) hw8 (.inr (.inr (.inr (.inr (.inl rfl)))))
    have BX:=Avp (Ae (Ak B1.out WB.out) (hk8.below (by have:=WB.out;have:=B1.out.size;omega) HB.out))
    replace Y:=Avp (hk8.bx Y.out (by have:=WS.out;have:=JL.out;omega))
    replace Z:=Avp (hk8.bx Z.out (by have:=WS.out;have:=EN.out;omega))
    clear hk8 hw8 F5 kI q0 q1 q2 q3 q4 q5
    have y0:=Y.out.cell 0 rfl;have y1:=Y.out.cell 1 rfl;have y2:=Y.out.cell 2 rfl;have y3:=Y.out.cell 3 rfl;have y4:=Y.out.cell 4 rfl
    have f2:=Y.out.fr 2 (by simp)
    obtain⟨yy,uy⟩:=Y.out.one (j:=2) (v:=.int .i64 (n7:Int)) (by simp)
    have jl:=JL.out
    have ZZ:=Avp (uy.bx Z.out (by omega))
    have BB:=Avp (Ae BX.out (uy.below (by have:=WB.out;omega)))
    clear yy uy jl
    go_wp2_with ((with_reducible refine Ai (N+1) ?_ ?_);(next=>rfl))
    unfold Az
    refine Af (J:=N+1) rfl rfl rfl rfl rfl ZZ.out (show(Tryz.prog.info? 60).map (·.size)=some 5 by kernel_rfl) rfl (by simp[Value.oneCell']) ?_
    intro w9 hx9 hu9
    have X9:=Avp hx9;have U9:=Avp hu9
    clear hx9 hu9
    go_wp2
    refine bodyPost_ret (v:=.tuple #[.agg #[.int .i64 8,.int .i64 0,.int .i64 (n7:Int),.slice none 0 0,.slice none 0 0],.int .i64 0]) ?_ rfl ?_
    ·exact Ah Tryz.results80 rfl rfl X9.out Tryz.underlying60 rfl (show(Tryz.prog.info? 60).map (·.size)=some 5 by kernel_rfl)
    have en:=EN.out
    exact⟨⟨_,rfl⟩,Ae BB.out (U9.out.below (by have:=WB.out;omega))⟩
 ·skip
  clear q1 q2 q3 q4 q5
  go_wp2_with ((with_reducible refine Ai (N+1) ?_ ?_);(next=>rfl))
  unfold Az
  refine Af (J:=N+1) rfl rfl rfl rfl rfl Z.out (show(Tryz.prog.info? 60).map (·.size)=some 5 by kernel_rfl) rfl (by simp[Value.oneCell']) ?_
  intro w9 hx9 hu9
  have X9:=Avp hx9;have U9:=Avp hu9
  clear hx9 hu9
  clear q0
  go_wp2
  refine bodyPost_ret (v:=.tuple #[.agg #[.int .i64 8,.int .i64 e,.int .i64 0,.slice none 0 0,.slice none 0 0],.int .i64 0]) ?_ rfl ?_
  ·exact Ah Tryz.results80 rfl rfl X9.out Tryz.underlying60 rfl (show(Tryz.prog.info? 60).map (·.size)=some 5 by kernel_rfl)
  have en:=EN.out
  exact⟨⟨_,rfl⟩,Ae (Ak B1.out WB.out) (U9.out.below (by have:=WB.out;omega))⟩
def Auo (B:Nat) (w:World) (v:Value):Prop:=∃ q:NPl,v = .tuple #[.pointer (some ⟨q.N,0,none⟩),.int .i64 0]∧FN w q 0∧q.C≠q.N∧B<=q.N∧B<=q.T∧B<=q.M∧B<=q.O∧B<=q.C∧B<=q.I
theorem At1 (w:World):Calls Tryz.prog 68 #[.agg #[.int .i64 1,.int .i64 1,.int .i64 1,.int .i64 1]] w (Ret w (Auo w.heap.size)):=by
 have X:=Avp (Bx.new w #[.int .i64 1,.int .i64 1,.int .i64 1,.int .i64 1] 36)
 have B:=Avp (show Below w.heap.size w (w.alloc (.cells #[.int .i64 1,.int .i64 1,.int .i64 1,.int .i64 1] 36)) by go_grown)
 obtain⟨N,hN⟩:∃ N,N=w.heap.size:=⟨_,rfl⟩
 rw[<-hN] at X
 go_enter Tryz.func68,Tryz.ntmps68
 go_wp2_with fail
 rw[<-hN]
 clear hN
 generalize w.alloc (.cells #[.int .i64 1,.int .i64 1,.int .i64 1,.int .i64 1] 36)=w1 at *
 have x1:=X.out.cell 1 rfl
 go_wp2_with fail
 refine(Ape w1).mono ?_
 rintro _ w2 ⟨_,rfl,hb2,T,S,M,rfl,ht,hf,hT,hS,hM⟩
 have L1:=Avp (show w.heap.size<=T∧w.heap.size<=S∧w.heap.size<=M by have:=B.out.size;omega)
 have TT:=Avp ht;have TF:=Avp hf;have TLT:=Avp (show T<w2.heap.size from World.block_lt_of_cell? w2 _ ht.t0)
 replace X:=Avp (X.out.mono hb2);replace B:=Avp (B.out.le hb2)
 clear hb2 ht hf hT hS hM x1
 have x0:=X.out.cell 0 rfl
 go_wp2_with fail
 refine(Apr w2).mono ?_
 rintro _ w3 ⟨_,rfl,hb3,C,hC,rfl,hc⟩
 have L2:=Avp (show w.heap.size<=C by have:=B.out.size;omega)
 have CC:=Avp hc
 replace X:=Avp (X.out.mono hb3);replace B:=Avp (B.out.le hb3);replace TT:=Avp (TT.out.mono hb3)
 replace TF:=Avp ((hb3.frozen (p:=⟨T,1,none⟩) TLT.out).trans TF.out);replace TLT:=Avp (Nat.lt_of_lt_of_le TLT.out hb3.size)
 clear hb3 hC hc x0
 have x2:=X.out.cell 2 rfl
 go_wp2_with fail
 refine(Atn w3).mono ?_
 rintro _ w4 ⟨_,rfl,hb4,I,hI,rfl,hi⟩
 have L3:=Avp (show w.heap.size<=I by have:=B.out.size;omega)
 have II:=Avp hi
 replace X:=Avp (X.out.mono hb4);replace B:=Avp (B.out.le hb4);replace TT:=Avp (TT.out.mono hb4);replace CC:=Avp (CC.out.mono hb4)
 replace TF:=Avp ((hb4.frozen (p:=⟨T,1,none⟩) TLT.out).trans TF.out);replace TLT:=Avp (Nat.lt_of_lt_of_le TLT.out hb4.size)
 clear hb4 hI hi x2
 have x3:=X.out.cell 3 rfl
 go_wp2_with fail
 refine(Asx w4).mono ?_
 rintro _ w5 ⟨_,rfl,hb5,O,hO,rfl,ho⟩
 have L4:=Avp (show w.heap.size<=O by have:=B.out.size;omega)
 have OO:=Avp ho
 replace X:=Avp (X.out.mono hb5);replace B:=Avp (B.out.le hb5);replace TT:=Avp (TT.out.mono hb5);replace CC:=Avp (CC.out.mono hb5);replace II:=Avp (II.out.mono hb5)
 replace TF:=Avp ((hb5.frozen (p:=⟨T,1,none⟩) TLT.out).trans TF.out);replace TLT:=Avp (Nat.lt_of_lt_of_le TLT.out hb5.size)
 clear hb5 hO ho x3
 have x0:=X.out.cell 0 rfl;have x1:=X.out.cell 1 rfl;have x2:=X.out.cell 2 rfl;have x3:=X.out.cell 3 rfl
 have hb6:Below w5.heap.size w5 (w5.alloc (.cells #[.int .i64 1,.int .i64 1,.int .i64 1,.int .i64 1,.pointer (some ⟨T,0,none⟩),.pointer (some ⟨C,0,none⟩),.pointer (some ⟨I,0,none⟩),.pointer (some ⟨O,0,none⟩),.bool false] 195)):=by go_grown
 have Y:=Avp (Bx.new w5 #[.int .i64 1,.int .i64 1,.int .i64 1,.int .i64 1,.pointer (some ⟨T,0,none⟩),.pointer (some ⟨C,0,none⟩),.pointer (some ⟨I,0,none⟩),.pointer (some ⟨O,0,none⟩),.bool false] 195)
 have LY:=Avp (show w.heap.size<=w5.heap.size∧C<w5.heap.size from⟨B.out.size,CC.out.lt⟩)
 replace B:=Avp (B.out.le hb6);replace TT:=Avp (TT.out.mono hb6);replace CC:=Avp (CC.out.mono hb6);replace II:=Avp (II.out.mono hb6);replace OO:=Avp (OO.out.mono hb6)
 replace TF:=Avp ((hb6.frozen (p:=⟨T,1,none⟩) TLT.out).trans TF.out)
 clear hb6
 go_wp2
 refine bodyPost_ret (v:=.tuple #[.pointer (some ⟨w5.heap.size,0,none⟩),.int .i64 0]) (by simp[results,Tryz.results68,go_sem]) rfl ?_
 have l1:=L1.out;have l2:=L2.out;have l3:=L3.out;have l4:=L4.out;have ly:=LY.out
 exact⟨_,rfl,B.out,⟨w5.heap.size,T,S,M,C,I,O⟩,rfl,⟨Y.out.cell 0 rfl,Y.out.cell 1 rfl,Y.out.cell 2 rfl,Y.out.cell 3 rfl,Y.out.cell 4 rfl,Y.out.cell 5 rfl,Y.out.cell 6 rfl,Y.out.cell 7 rfl,Y.out.cell 8 rfl,TT.out,⟨CC.out.cell 0 rfl,CC.out.cell 1 rfl⟩,II.out,OO.out,Y.out.fr 8 (by simp),TF.out,CC.out.fr 1 (by simp)⟩,by simp;omega,by simp;omega,l1.1,l1.2.2,l4,l2,l3⟩
theorem rDo {B:Nat} {w:World} {q:NPl} {n:Int} (c:Ce) (A:Option Addr) (m:Nat) (h:FN w q n) (g:Cr w) (hC:q.C≠q.N) (hB:B<=q.N∧B<=q.T∧B<=q.M∧B<=q.O∧B<=q.C∧B<=q.I) (hg:2<B∧1<B) (hn:0<=n∧n<=1000) (hk:c.key.length<=300) (ho:c.other.length<=300) (hi:c.item.length<=300) (hd:Sl encB w A c.data.length m c.data) (hdl:c.data.length<=300) (h9:c.op≠9) :
  Calls Tryz.prog 80 #[.pointer (some ⟨q.N,0,none⟩),Aq c A c.data.length m] w (DoP B (if Br c then 0 else 2) w):=by
 cases hf:Br c with
 | false=>exact At2 c A m h (by have:=h.lts;omega) hf
 | true=>
  have ho1:isO c.op=true:=by
   unfold Br at hf
   exact(Bool.and_eq_true _ _ ▸ hf).1
  obtain⟨op,key,other,item,qty,data⟩:=c
  simp only at *
  unfold Aq
  rcases Py op with rfl | rfl | rfl | rfl | rfl | rfl | rfl | rfl | rfl | rfl | rfl | h0
  ·exact Au8 key other item data qty _ A m h g hC hB hg hn hk ho hi hd hdl hf
  ·exact Avc key other item data qty _ A m h g hC hB hg hn hk ho hi hd hdl hf
  ·exact Au0 key other item data qty _ A m h g hC hB hg hn hk ho hi hd hdl hf
  ·exact Au5 key other item data qty _ A m h g hC hB hg hn hk ho hi hd hdl hf
  ·exact Auu key other item data qty _ A m h g hC hB hg hn hk ho hi hd hdl hf
  ·exact Avj key other item data qty _ A m h g hC hB hg hn hk ho hi hd hdl hf
  ·exact Aul key other item data qty _ A m h g hC hB hg hn hk ho hi hd hdl hf
  ·exact Aux key other item data qty _ A m h g hC hB hg hn hk ho hi hd hdl hf
  ·exact absurd rfl h9
  ·exact Atr key other item data qty _ A m h g hC hB hg hn hk ho hi hd hdl hf
  ·exact At3 key other item data qty _ A m h g hC hB hg hn hk ho hi hd hdl hf
  ·rw[h0] at ho1;cases ho1
def En (c:Ce):Bool:=if c.op=9 then false else Br c
theorem Se {w:World} (c:Ce) (A:Option Addr) (m:Nat) (g:Cr w) (hg:2<w.heap.size∧1<w.heap.size) (hk:c.key.length<=300) (ho:c.other.length<=300) (hi:c.item.length<=300) (hd:Sl encB w A c.data.length m c.data) (hdl:c.data.length<=300) :
  Calls Tryz.prog 44 #[Aq c A c.data.length m] w (Ret w (IsB (En c))):=by
 have X:=Avp (Bx.new w (Rv c A c.data.length m) 25)
 have B:=Avp (show Below w.heap.size w (w.alloc (.cells (Rv c A c.data.length m) 25)) by go_grown)
 have F:=Avp (fun(w2:World) (q:NPl) (hb:Below w.heap.size w w2) (h:FN w2 q 0) (hC:q.C≠q.N) (hB:w.heap.size<=q.N∧w.heap.size<=q.T∧w.heap.size<=q.M∧w.heap.size<=q.O∧w.heap.size<=q.C∧w.heap.size<=q.I) (h9:c.op≠9)=>
  rDo (B:=w.heap.size) c A m h (g.mono hb) hC hB hg (by omega) hk ho hi (hd.mono hb) hdl h9)
 unfold En
 generalize Br c=f at *
 clear g hg hk ho hi hd hdl
 obtain⟨op,key,other,item,qty,data⟩:=c
 unfold Aq at *
 simp only at *
 generalize data.length=ln at *
 obtain⟨N,hN⟩:∃ N,N=w.heap.size:=⟨_,rfl⟩
 rw[<-hN] at X
 by_cases h9:op=9
 ·subst h9
  simp only[if_true]
  go_enter Tryz.func44,Tryz.ntmps44
  go_wp2
  go_ret
  exact Ay rfl B.out
 ·rw[if_neg h9]
  have hb9:(op==9)=false:=by simp[h9]
  have HW:=Avp (show ∃ w1,w1=w.alloc (.cells #[.int .i64 op,Ac key,Ac other,Ac item,.int .i64 qty,.slice A ln m] 25) from⟨_,rfl⟩)
  go_enter Tryz.func44,Tryz.ntmps44
  go_wp2_with fail
  rw[<-hN]
  clear hN
  generalize w.alloc (.cells #[.int .i64 op,Ac key,Ac other,Ac item,.int .i64 qty,.slice A ln m] 25)=w1 at *
  refine(At1 w1).mono ?_
  rintro _ w2 ⟨_,rfl,hb2,q,rfl,hf,hC,hB⟩
  have B1:=Avp B.out.size
  replace B:=Avp (B.out.le hb2);replace X:=Avp (X.out.mono hb2)
  have q0:=X.out.cell 0 rfl;have q1:=X.out.cell 1 rfl;have q2:=X.out.cell 2 rfl;have q3:=X.out.cell 3 rfl;have q4:=X.out.cell 4 rfl;have q5:=X.out.cell 5 rfl
  have F2:=Avp (F.out w2 q B.out hf hC (by have:=B1.out;omega) h9)
  clear hb2 hf hC hB F
  go_wp2_with fail
  refine F2.out.mono ?_
  rintro _ w3 ⟨⟨a,rfl⟩,hb3⟩
  have B3:=Avp (Ae B.out hb3)
  clear hb3 F2 q0 q1 q2 q3 q4 q5
  cases f with
  | true=>
   simp only[if_true]
   go_wp2
   go_ret
   exact Ay rfl B3.out
  | false=>
   simp only[Bool.false_eq_true,if_false]
   go_wp2
   go_ret
   exact Ay rfl B3.out
def partsL:List (List UInt8):=[[],[107,105,113],[107,105,113],[107,105],[107],[107],[107,111,105],[107,111],[100],[],[],[]]
structure Ke (w:World):Prop where
 c:∀ i s,partsL[i]?=some s->w.cell? ⟨0,i,none⟩=some (Ac s)
theorem Ke.mono {w w':World} (h:Ke w) (hb:Below w.heap.size w w'):Ke w':=⟨fun i s e=>Ad hb (h.c i s e)⟩
theorem Aev (s:List UInt8) (x:UInt8) (hs:s∈partsL) (hx:x∈([107,111,105,113,100]:List UInt8)):decide (0<=Lib.indexByte s x)=s.contains x:=by
 unfold partsL at hs
 simp only[List.mem_cons,List.not_mem_nil,or_false] at hs hx
 rcases hs with rfl | rfl | rfl | rfl | rfl | rfl | rfl | rfl | rfl | rfl | rfl | rfl <;> rcases hx with rfl | rfl | rfl | rfl | rfl <;> decide
theorem Aj6 (s:List UInt8) (x:UInt8) (hs:s∈partsL) (hx:x∈([107,111,105,113,100]:List UInt8)) (w:World):Calls Tryz.prog 230 #[Ac s,Ac [x]] w (Ret w (IsB (s.contains x))):=by
 refine(Any.strings_Contains_one Tryz.hasL ⟨⟨s⟩⟩ x w).mono ?_
 rintro _ _ ⟨rfl,rfl⟩
 exact⟨_,rfl,Below.refl _ _,by rw[<-Aev s x hs hx];rfl⟩
theorem Ajq {k:Nat} (h:k<=11):partsL[k]?=some (partsL.getD k [])∧partsL.getD k []∈partsL:=by
 have hk:k<partsL.length:=by show k<12;omega
 have e:partsL[k]?=some (partsL.getD k []):=by rw[List.getD_eq_getElem?_getD,List.getElem?_eq_getElem hk];rfl
 exact⟨e,List.mem_of_getElem? e⟩
theorem Nc {k:Nat} {L:UInt8} {key other item:List UInt8} {qty:Int} {A:Option Addr} {n m:Nat} {w:World} (h:Ke w) (h1:1<=k) (h2:k<=11) (hL:L∈([107,111,105,113,100]:List UInt8)):Calls Tryz.prog 145 #[.agg #[.int .i64 (k:Int),Ac key,Ac other,Ac item,.int .i64 qty,.slice A n m],Ac [L]] w (Ret w (IsB ((partsL.getD k []).contains L))):=by
 obtain⟨e1,e2⟩:=Ajq h2
 have p:=h.c k _ e1
 have F:=Avp (fun w1=>Aj6 (partsL.getD k []) L e2 hL w1)
 generalize partsL.getD k []=s at *
 generalize s.contains L=r at *
 have lt:=World.block_lt_of_cell? w _ p
 have B:=Avp (show Below w.heap.size w (w.alloc (.cells #[.int .i64 (k:Int),Ac key,Ac other,Ac item,.int .i64 qty,.slice A n m] 25)) by go_grown)
 have d1:(0:Int)<(k:Int):=by omega
 have d2:(k:Int)<12:=by omega
 have d3:(0:Int)<=(k:Int):=by omega
 clear h e1 e2 hL h1 h2
 go_enter Tryz.func145,Tryz.ntmps145
 go_wp2_with fail
 refine(F.out _).mono ?_
 rintro _ w1 ⟨_,rfl,hb1,rfl⟩
 replace B:=Avp (B.out.le hb1)
 clear hb1 F p lt
 go_wp2
 go_ret
 exact Ay rfl B.out
theorem Ai2 {op:Int} {key other item:List UInt8} {qty:Int} {A:Option Addr} {n m:Nat} {w:World} (v:Value) (h:isO op=false):Calls Tryz.prog 145 #[.agg #[.int .i64 op,Ac key,Ac other,Ac item,.int .i64 qty,.slice A n m],v] w (Ret w (IsB false)):=by
 have B:=Avp (show Below w.heap.size w (w.alloc (.cells #[.int .i64 op,Ac key,Ac other,Ac item,.int .i64 qty,.slice A n m] 25)) by go_grown)
 obtain⟨h1,h2,h3,h4,h5,h6,h7,h8,h9,h10,h11⟩:=Nl h
 have hh:¬(0<op)∨(0<op∧¬(op<12)):=by omega
 clear h h1 h2 h3 h4 h5 h6 h7 h8 h9 h10 h11
 rcases hh with h | ⟨h,h'⟩
 ·go_enter Tryz.func145,Tryz.ntmps145
  go_wp2
  go_ret
  exact Ay rfl B.out
 ·go_enter Tryz.func145,Tryz.ntmps145
  go_wp2
  go_ret
  exact Ay rfl B.out
theorem Afv {op:Int} {key other item:List UInt8} {qty:Int} {A:Option Addr} {n m:Nat} {w:World} (h:isO op=false):Calls Tryz.prog 87 #[.agg #[.int .i64 op,Ac key,Ac other,Ac item,.int .i64 qty,.slice A n m]] w (Ret w (IsB false)):=by
 have F107:=Avp (fun w1 (_:Below w.heap.size w w1) v=>Ai2 (key:=key) (other:=other) (item:=item) (qty:=qty) (A:=A) (n:=n) (m:=m) (w:=w1) v h)
 have hh:(decide (0<op)&&decide (op<12))=false:=by
  obtain⟨h1,h2,h3,h4,h5,h6,h7,h8,h9,h10,h11⟩:=Nl h
  by_cases h0:0<op
  ·rw[decide_eq_false (show ¬op<12 by omega)];simp
  ·rw[decide_eq_false h0];rfl
 clear h
 have B:=Avp (show Below w.heap.size w (w.alloc (.cells #[.int .i64 op,Ac key,Ac other,Ac item,.int .i64 qty,.slice A n m] 25)) by go_grown)
 have X:=Avp (Bx.new w #[.int .i64 op,Ac key,Ac other,Ac item,.int .i64 qty,.slice A n m] 25)
 obtain⟨N,hN⟩:∃ N,N=w.heap.size:=⟨_,rfl⟩
 rw[<-hN] at X
 go_enter Tryz.func87,Tryz.ntmps87
 go_wp2_with fail
 rw[<-hN]
 clear hN
 generalize w.alloc (.cells #[.int .i64 op,Ac key,Ac other,Ac item,.int .i64 qty,.slice A n m] 25)=w1 at *
 have q0:=X.out.cell 0 rfl;have q1:=X.out.cell 1 rfl;have q2:=X.out.cell 2 rfl;have q3:=X.out.cell 3 rfl;have q4:=X.out.cell 4 rfl;have q5:=X.out.cell 5 rfl
 go_wp2_with (first
  | (go_at_call 145;subst_vars;(with_reducible refine(F107.out _ B.out _).mono ?_);rintro _ wx ⟨_,rfl,hbx,rfl⟩;replace X:=Avp (X.out.mono hbx);replace B:=Avp (B.out.le hbx);replace q0:=X.out.cell 0 rfl;replace q1:=X.out.cell 1 rfl;replace q2:=X.out.cell 2 rfl;replace q3:=X.out.cell 3 rfl;replace q4:=X.out.cell 4 rfl;replace q5:=X.out.cell 5 rfl;clear hbx)
  | fail)
 all_goals go_ret
 all_goals exact Ay (by clear B X;simp_all) B.out
theorem Gi (k:Nat) (h1:1<=k) (h2:k<=11):(partsL.getD k []).contains 107=kO (k:Int)∧(partsL.getD k []).contains 111=oO (k:Int)∧(partsL.getD k []).contains 105=iO (k:Int)∧(partsL.getD k []).contains 113=qO (k:Int)∧(partsL.getD k []).contains 100=dO (k:Int):=by
 have:∀ k:Fin 12,1<=k.1->((partsL.getD k.1 []).contains 107=kO (k.1:Int)∧(partsL.getD k.1 []).contains 111=oO (k.1:Int)∧(partsL.getD k.1 []).contains 105=iO (k.1:Int)∧(partsL.getD k.1 []).contains 113=qO (k.1:Int)∧(partsL.getD k.1 []).contains 100=dO (k.1:Int)):=by decide
 exact this ⟨k,by omega⟩ h1
theorem Ai3 {k:Nat} {key other item:List UInt8} {qty:Int} {A:Option Addr} {n m:Nat} {w:World} (h:Ke w) (h1:1<=k) (h2:k<=11):Calls Tryz.prog 87 #[.agg #[.int .i64 (k:Int),Ac key,Ac other,Ac item,.int .i64 qty,.slice A n m]] w (Ret w (IsB ((kO (k:Int)||key==[])&&((oO (k:Int)||other==[])&&((iO (k:Int)||item==[])&&((qO (k:Int)||qty==0)&&(dO (k:Int)||((n:Int)==0)))))))):=by
 have F107:=Avp (fun w1 (hb:Below w.heap.size w w1)=>show Calls Tryz.prog 145 #[.agg #[.int .i64 (k:Int),Ac key,Ac other,Ac item,.int .i64 qty,.slice A n m],.string { data:=#[107] }] w1 _ from Nc (k:=k) (L:=107) (key:=key) (other:=other) (item:=item) (qty:=qty) (A:=A) (n:=n) (m:=m) (h.mono hb) h1 h2 (by decide))
 rw[(Gi k h1 h2).1] at F107
 generalize kO (k:Int)=a at *
 have F111:=Avp (fun w1 (hb:Below w.heap.size w w1)=>show Calls Tryz.prog 145 #[.agg #[.int .i64 (k:Int),Ac key,Ac other,Ac item,.int .i64 qty,.slice A n m],.string { data:=#[111] }] w1 _ from Nc (k:=k) (L:=111) (key:=key) (other:=other) (item:=item) (qty:=qty) (A:=A) (n:=n) (m:=m) (h.mono hb) h1 h2 (by decide))
 rw[(Gi k h1 h2).2.1] at F111
 generalize oO (k:Int)=b at *
 have F105:=Avp (fun w1 (hb:Below w.heap.size w w1)=>show Calls Tryz.prog 145 #[.agg #[.int .i64 (k:Int),Ac key,Ac other,Ac item,.int .i64 qty,.slice A n m],.string { data:=#[105] }] w1 _ from Nc (k:=k) (L:=105) (key:=key) (other:=other) (item:=item) (qty:=qty) (A:=A) (n:=n) (m:=m) (h.mono hb) h1 h2 (by decide))
 rw[(Gi k h1 h2).2.2.1] at F105
 generalize iO (k:Int)=c at *
 have F113:=Avp (fun w1 (hb:Below w.heap.size w w1)=>show Calls Tryz.prog 145 #[.agg #[.int .i64 (k:Int),Ac key,Ac other,Ac item,.int .i64 qty,.slice A n m],.string { data:=#[113] }] w1 _ from Nc (k:=k) (L:=113) (key:=key) (other:=other) (item:=item) (qty:=qty) (A:=A) (n:=n) (m:=m) (h.mono hb) h1 h2 (by decide))
 rw[(Gi k h1 h2).2.2.2.1] at F113
 generalize qO (k:Int)=d at *
 have F100:=Avp (fun w1 (hb:Below w.heap.size w w1)=>show Calls Tryz.prog 145 #[.agg #[.int .i64 (k:Int),Ac key,Ac other,Ac item,.int .i64 qty,.slice A n m],.string { data:=#[100] }] w1 _ from Nc (k:=k) (L:=100) (key:=key) (other:=other) (item:=item) (qty:=qty) (A:=A) (n:=n) (m:=m) (h.mono hb) h1 h2 (by decide))
 rw[(Gi k h1 h2).2.2.2.2] at F100
 generalize dO (k:Int)=e at *
 have d1:(0:Int)<(k:Int):=by omega
 have d2:(k:Int)<12:=by omega
 clear h h1 h2
 have B:=Avp (show Below w.heap.size w (w.alloc (.cells #[.int .i64 (k:Int),Ac key,Ac other,Ac item,.int .i64 qty,.slice A n m] 25)) by go_grown)
 have X:=Avp (Bx.new w #[.int .i64 (k:Int),Ac key,Ac other,Ac item,.int .i64 qty,.slice A n m] 25)
 obtain⟨N,hN⟩:∃ N,N=w.heap.size:=⟨_,rfl⟩
 rw[<-hN] at X
 go_enter Tryz.func87,Tryz.ntmps87
 go_wp2_with fail
 rw[<-hN]
 clear hN
 generalize w.alloc (.cells #[.int .i64 (k:Int),Ac key,Ac other,Ac item,.int .i64 qty,.slice A n m] 25)=w1 at *
 have q0:=X.out.cell 0 rfl;have q1:=X.out.cell 1 rfl;have q2:=X.out.cell 2 rfl;have q3:=X.out.cell 3 rfl;have q4:=X.out.cell 4 rfl;have q5:=X.out.cell 5 rfl
 go_wp2_with (first
  | (go_at_call 145;subst_vars;(with_reducible refine(F107.out _ B.out).mono ?_);rintro _ wx ⟨_,rfl,hbx,rfl⟩;replace X:=Avp (X.out.mono hbx);replace B:=Avp (B.out.le hbx);replace q0:=X.out.cell 0 rfl;replace q1:=X.out.cell 1 rfl;replace q2:=X.out.cell 2 rfl;replace q3:=X.out.cell 3 rfl;replace q4:=X.out.cell 4 rfl;replace q5:=X.out.cell 5 rfl;clear hbx)
  | (go_at_call 145;subst_vars;(with_reducible refine(F111.out _ B.out).mono ?_);rintro _ wx ⟨_,rfl,hbx,rfl⟩;replace X:=Avp (X.out.mono hbx);replace B:=Avp (B.out.le hbx);replace q0:=X.out.cell 0 rfl;replace q1:=X.out.cell 1 rfl;replace q2:=X.out.cell 2 rfl;replace q3:=X.out.cell 3 rfl;replace q4:=X.out.cell 4 rfl;replace q5:=X.out.cell 5 rfl;clear hbx)
  | (go_at_call 145;subst_vars;(with_reducible refine(F105.out _ B.out).mono ?_);rintro _ wx ⟨_,rfl,hbx,rfl⟩;replace X:=Avp (X.out.mono hbx);replace B:=Avp (B.out.le hbx);replace q0:=X.out.cell 0 rfl;replace q1:=X.out.cell 1 rfl;replace q2:=X.out.cell 2 rfl;replace q3:=X.out.cell 3 rfl;replace q4:=X.out.cell 4 rfl;replace q5:=X.out.cell 5 rfl;clear hbx)
  | (go_at_call 145;subst_vars;(with_reducible refine(F113.out _ B.out).mono ?_);rintro _ wx ⟨_,rfl,hbx,rfl⟩;replace X:=Avp (X.out.mono hbx);replace B:=Avp (B.out.le hbx);replace q0:=X.out.cell 0 rfl;replace q1:=X.out.cell 1 rfl;replace q2:=X.out.cell 2 rfl;replace q3:=X.out.cell 3 rfl;replace q4:=X.out.cell 4 rfl;replace q5:=X.out.cell 5 rfl;clear hbx)
  | (go_at_call 145;subst_vars;(with_reducible refine(F100.out _ B.out).mono ?_);rintro _ wx ⟨_,rfl,hbx,rfl⟩;replace X:=Avp (X.out.mono hbx);replace B:=Avp (B.out.le hbx);replace q0:=X.out.cell 0 rfl;replace q1:=X.out.cell 1 rfl;replace q2:=X.out.cell 2 rfl;replace q3:=X.out.cell 3 rfl;replace q4:=X.out.cell 4 rfl;replace q5:=X.out.cell 5 rfl;clear hbx)
  | fail)
 all_goals go_ret
 all_goals exact Ay (by clear B X F107 F111 F105 F113 F100;simp_all) B.out
theorem Acl {w:World} (c:Ce) (A:Option Addr) (m:Nat) (h:Ke w):Calls Tryz.prog 87 #[Aq c A c.data.length m] w (Ret w (IsB (Br c))):=by
 obtain⟨op,key,other,item,qty,data⟩:=c
 cases h0:isO op with
 | false=>
  have e:Br ⟨op,key,other,item,qty,data⟩=false:=by unfold Br;simp only;rw[h0];rfl
  rw[e]
  exact Afv h0
 | true=>
  have hr:1<=op∧op<=11:=by
   rcases Py op with h | h | h | h | h | h | h | h | h | h | h | h
   iterate 11 omega
   rw[h] at h0;cases h0
  obtain⟨k,rfl⟩:∃ k:Nat,op=(k:Int):=⟨op.toNat,by omega⟩
  unfold Br
  simp only
  rw[h0,Bool.true_and]
  exact Ai3 h (by omega) (by omega)
def Bw (c:Ce):Bool:=Br c && !(c.op==4||(c.op==8||(c.op==10||c.op==11)))
theorem Hn {w:World} (c:Ce) (A:Option Addr) (m:Nat) (h:Ke w):Calls Tryz.prog 59 #[Aq c A c.data.length m] w (Ret w (IsB (Bw c))):=by
 have F:=Avp (fun w1 (hb:Below w.heap.size w w1)=>Acl c A m (h.mono hb))
 unfold Bw
 generalize Br c=f at *
 obtain⟨op,key,other,item,qty,data⟩:=c
 unfold Aq at *
 simp only at *
 generalize data.length=n at *
 clear h
 by_cases h4:op=4
 ·subst h4
  cases f
  ·skip
   skip
   have B:=Avp (show Below w.heap.size w (w.alloc (.cells #[.int .i64 4,Ac key,Ac other,Ac item,.int .i64 qty,.slice A n m] 25)) by go_grown)
   have X:=Avp (Bx.new w #[.int .i64 4,Ac key,Ac other,Ac item,.int .i64 qty,.slice A n m] 25)
   have q0:=X.out.cell 0 rfl;have q1:=X.out.cell 1 rfl;have q2:=X.out.cell 2 rfl;have q3:=X.out.cell 3 rfl;have q4:=X.out.cell 4 rfl;have q5:=X.out.cell 5 rfl
   go_enter Tryz.func59,Tryz.ntmps59
   go_wp2_with fail
   refine(F.out _ B.out).mono ?_
   rintro _ w2 ⟨_,rfl,hb2,rfl⟩
   replace B:=Avp (B.out.le hb2)
   clear hb2 X F q0 q1 q2 q3 q4 q5
   go_wp2
   go_ret
   exact Ay rfl B.out
  ·skip
   skip
   have B:=Avp (show Below w.heap.size w (w.alloc (.cells #[.int .i64 4,Ac key,Ac other,Ac item,.int .i64 qty,.slice A n m] 25)) by go_grown)
   have X:=Avp (Bx.new w #[.int .i64 4,Ac key,Ac other,Ac item,.int .i64 qty,.slice A n m] 25)
   have q0:=X.out.cell 0 rfl;have q1:=X.out.cell 1 rfl;have q2:=X.out.cell 2 rfl;have q3:=X.out.cell 3 rfl;have q4:=X.out.cell 4 rfl;have q5:=X.out.cell 5 rfl
   go_enter Tryz.func59,Tryz.ntmps59
   go_wp2_with fail
   refine(F.out _ B.out).mono ?_
   rintro _ w2 ⟨_,rfl,hb2,rfl⟩
   replace B:=Avp (B.out.le hb2)
   clear hb2 X F q0 q1 q2 q3 q4 q5
   go_wp2
   go_ret
   exact Ay rfl B.out
 by_cases h8:op=8
 ·subst h8
  cases f
  ·skip
   skip
   have B:=Avp (show Below w.heap.size w (w.alloc (.cells #[.int .i64 8,Ac key,Ac other,Ac item,.int .i64 qty,.slice A n m] 25)) by go_grown)
   have X:=Avp (Bx.new w #[.int .i64 8,Ac key,Ac other,Ac item,.int .i64 qty,.slice A n m] 25)
   have q0:=X.out.cell 0 rfl;have q1:=X.out.cell 1 rfl;have q2:=X.out.cell 2 rfl;have q3:=X.out.cell 3 rfl;have q4:=X.out.cell 4 rfl;have q5:=X.out.cell 5 rfl
   go_enter Tryz.func59,Tryz.ntmps59
   go_wp2_with fail
   refine(F.out _ B.out).mono ?_
   rintro _ w2 ⟨_,rfl,hb2,rfl⟩
   replace B:=Avp (B.out.le hb2)
   clear hb2 X F q0 q1 q2 q3 q4 q5
   go_wp2
   go_ret
   exact Ay rfl B.out
  ·skip
   skip
   have B:=Avp (show Below w.heap.size w (w.alloc (.cells #[.int .i64 8,Ac key,Ac other,Ac item,.int .i64 qty,.slice A n m] 25)) by go_grown)
   have X:=Avp (Bx.new w #[.int .i64 8,Ac key,Ac other,Ac item,.int .i64 qty,.slice A n m] 25)
   have q0:=X.out.cell 0 rfl;have q1:=X.out.cell 1 rfl;have q2:=X.out.cell 2 rfl;have q3:=X.out.cell 3 rfl;have q4:=X.out.cell 4 rfl;have q5:=X.out.cell 5 rfl
   go_enter Tryz.func59,Tryz.ntmps59
   go_wp2_with fail
   refine(F.out _ B.out).mono ?_
   rintro _ w2 ⟨_,rfl,hb2,rfl⟩
   replace B:=Avp (B.out.le hb2)
   clear hb2 X F q0 q1 q2 q3 q4 q5
   go_wp2
   go_ret
   exact Ay rfl B.out
 by_cases h10:op=10
 ·subst h10
  cases f
  ·skip
   skip
   have B:=Avp (show Below w.heap.size w (w.alloc (.cells #[.int .i64 10,Ac key,Ac other,Ac item,.int .i64 qty,.slice A n m] 25)) by go_grown)
   have X:=Avp (Bx.new w #[.int .i64 10,Ac key,Ac other,Ac item,.int .i64 qty,.slice A n m] 25)
   have q0:=X.out.cell 0 rfl;have q1:=X.out.cell 1 rfl;have q2:=X.out.cell 2 rfl;have q3:=X.out.cell 3 rfl;have q4:=X.out.cell 4 rfl;have q5:=X.out.cell 5 rfl
   go_enter Tryz.func59,Tryz.ntmps59
   go_wp2_with fail
   refine(F.out _ B.out).mono ?_
   rintro _ w2 ⟨_,rfl,hb2,rfl⟩
   replace B:=Avp (B.out.le hb2)
   clear hb2 X F q0 q1 q2 q3 q4 q5
   go_wp2
   go_ret
   exact Ay rfl B.out
  ·skip
   skip
   have B:=Avp (show Below w.heap.size w (w.alloc (.cells #[.int .i64 10,Ac key,Ac other,Ac item,.int .i64 qty,.slice A n m] 25)) by go_grown)
   have X:=Avp (Bx.new w #[.int .i64 10,Ac key,Ac other,Ac item,.int .i64 qty,.slice A n m] 25)
   have q0:=X.out.cell 0 rfl;have q1:=X.out.cell 1 rfl;have q2:=X.out.cell 2 rfl;have q3:=X.out.cell 3 rfl;have q4:=X.out.cell 4 rfl;have q5:=X.out.cell 5 rfl
   go_enter Tryz.func59,Tryz.ntmps59
   go_wp2_with fail
   refine(F.out _ B.out).mono ?_
   rintro _ w2 ⟨_,rfl,hb2,rfl⟩
   replace B:=Avp (B.out.le hb2)
   clear hb2 X F q0 q1 q2 q3 q4 q5
   go_wp2
   go_ret
   exact Ay rfl B.out
 by_cases h11:op=11
 ·subst h11
  cases f
  ·skip
   skip
   have B:=Avp (show Below w.heap.size w (w.alloc (.cells #[.int .i64 11,Ac key,Ac other,Ac item,.int .i64 qty,.slice A n m] 25)) by go_grown)
   have X:=Avp (Bx.new w #[.int .i64 11,Ac key,Ac other,Ac item,.int .i64 qty,.slice A n m] 25)
   have q0:=X.out.cell 0 rfl;have q1:=X.out.cell 1 rfl;have q2:=X.out.cell 2 rfl;have q3:=X.out.cell 3 rfl;have q4:=X.out.cell 4 rfl;have q5:=X.out.cell 5 rfl
   go_enter Tryz.func59,Tryz.ntmps59
   go_wp2_with fail
   refine(F.out _ B.out).mono ?_
   rintro _ w2 ⟨_,rfl,hb2,rfl⟩
   replace B:=Avp (B.out.le hb2)
   clear hb2 X F q0 q1 q2 q3 q4 q5
   go_wp2
   go_ret
   exact Ay rfl B.out
  ·skip
   skip
   have B:=Avp (show Below w.heap.size w (w.alloc (.cells #[.int .i64 11,Ac key,Ac other,Ac item,.int .i64 qty,.slice A n m] 25)) by go_grown)
   have X:=Avp (Bx.new w #[.int .i64 11,Ac key,Ac other,Ac item,.int .i64 qty,.slice A n m] 25)
   have q0:=X.out.cell 0 rfl;have q1:=X.out.cell 1 rfl;have q2:=X.out.cell 2 rfl;have q3:=X.out.cell 3 rfl;have q4:=X.out.cell 4 rfl;have q5:=X.out.cell 5 rfl
   go_enter Tryz.func59,Tryz.ntmps59
   go_wp2_with fail
   refine(F.out _ B.out).mono ?_
   rintro _ w2 ⟨_,rfl,hb2,rfl⟩
   replace B:=Avp (B.out.le hb2)
   clear hb2 X F q0 q1 q2 q3 q4 q5
   go_wp2
   go_ret
   exact Ay rfl B.out
 have b4:(op==4)=false:=by simpa using h4
 have b8:(op==8)=false:=by simpa using h8
 have b10:(op==10)=false:=by simpa using h10
 have b11:(op==11)=false:=by simpa using h11
 rw[b4,b8,b10,b11]
 clear h4 h8 h10 h11
 cases f
 ·skip
  skip
  have B:=Avp (show Below w.heap.size w (w.alloc (.cells #[.int .i64 op,Ac key,Ac other,Ac item,.int .i64 qty,.slice A n m] 25)) by go_grown)
  have X:=Avp (Bx.new w #[.int .i64 op,Ac key,Ac other,Ac item,.int .i64 qty,.slice A n m] 25)
  have q0:=X.out.cell 0 rfl;have q1:=X.out.cell 1 rfl;have q2:=X.out.cell 2 rfl;have q3:=X.out.cell 3 rfl;have q4:=X.out.cell 4 rfl;have q5:=X.out.cell 5 rfl
  go_enter Tryz.func59,Tryz.ntmps59
  go_wp2_with fail
  refine(F.out _ B.out).mono ?_
  rintro _ w2 ⟨_,rfl,hb2,rfl⟩
  replace B:=Avp (B.out.le hb2)
  clear hb2 X F q0 q1 q2 q3 q4 q5
  go_wp2
  go_ret
  exact Ay rfl B.out
 ·skip
  skip
  have B:=Avp (show Below w.heap.size w (w.alloc (.cells #[.int .i64 op,Ac key,Ac other,Ac item,.int .i64 qty,.slice A n m] 25)) by go_grown)
  have X:=Avp (Bx.new w #[.int .i64 op,Ac key,Ac other,Ac item,.int .i64 qty,.slice A n m] 25)
  have q0:=X.out.cell 0 rfl;have q1:=X.out.cell 1 rfl;have q2:=X.out.cell 2 rfl;have q3:=X.out.cell 3 rfl;have q4:=X.out.cell 4 rfl;have q5:=X.out.cell 5 rfl
  go_enter Tryz.func59,Tryz.ntmps59
  go_wp2_with fail
  refine(F.out _ B.out).mono ?_
  rintro _ w2 ⟨_,rfl,hb2,rfl⟩
  replace B:=Avp (B.out.le hb2)
  clear hb2 X F q0 q1 q2 q3 q4 q5
  go_wp2
  go_ret
  exact Ay rfl B.out
def M8 (l:List (List UInt8)) (s:List UInt8):List (List UInt8):=if Dr s && !(Mf l s) then l++[s] else l
def Ef (ks:List (List UInt8)):List (List UInt8):=ks.foldl M8 []
def Cz (c:Ce):List (List UInt8):=if Br c then Fa (Ef [c.key,c.other]) else []
theorem Aj0 (l:List (List UInt8)) (s:List UInt8):(M8 l s).length<=l.length+1:=by
 unfold M8;split <;> simp
theorem Io (ks:List (List UInt8)):(Ef ks).length<=ks.length:=by
 have:∀ (ks l:List (List UInt8)),(ks.foldl M8 l).length<=l.length+ks.length:=by
  intro ks
  induction ks with
  | nil=>intro l;simp
  | cons s t ih=>intro l;have:=ih (M8 l s);have:=Aj0 l s;simp;omega
 simpa [Ef] using this ks []
theorem Fw (c:Ce):(Cz c).length<=2:=by
 unfold Cz
 split
 ·rw[It];exact Io _
 ·simp
theorem Ad5 {ks:List (List UInt8)} {s:List UInt8} (h:s∈Ef ks):s∈ks:=by
 have:∀ (ks l:List (List UInt8)),s∈ks.foldl M8 l->s∈l∨s∈ks:=by
  intro ks
  induction ks with
  | nil=>intro l h;exact .inl h
  | cons x t ih=>
   intro l h
   rcases ih _ h with h | h
   ·unfold M8 at h
    split at h
    ·rcases List.mem_append.1 h with h | h
     ·exact .inl h
     ·exact .inr (by simp at h;subst h;exact List.mem_cons_self ..)
    ·exact .inl h
   ·exact .inr (List.mem_cons_of_mem _ h)
 rcases this ks [] h with h | h
 ·cases h
 ·exact h
theorem He (c:Ce) (hk:c.key.length<=1000000) (ho:c.other.length<=1000000):∀ s∈Cz c,s.length<=1000000:=by
 intro s h
 unfold Cz at h
 split at h
 ·have h2:s∈Ef [c.key,c.other]:=(List.mergeSort_perm _ _).mem_iff.1 h
  have h3:=Ad5 h2
  simp at h3
  rcases h3 with rfl | rfl <;> assumption
 ·cases h
def Oy (w:World) (N:Nat) (ks:List (List UInt8)) (v i:Value) (wr:World):Prop:=∃ k:Nat,i = .int .i64 k∧k<=ks.length∧Below N w wr∧Ag encS 9 wr N v (Ef (ks.take k))
theorem Rf {ks:List (List UInt8)} {k:Nat} {s:List UInt8} (h:ks[k]?=some s):Ef (ks.take (k+1))=M8 (Ef (ks.take k)) s:=by
 rw[Cc h];unfold Ef;rw[List.foldl_append];rfl
theorem Acf {l:List (List UInt8)} {s:List UInt8} (h:Dr s=false):M8 l s=l:=by unfold M8;rw[h];rfl
theorem Zo {l:List (List UInt8)} {s:List UInt8} (h:Mf l s=true):M8 l s=l:=by unfold M8;rw[h];simp
theorem Yv {l:List (List UInt8)} {s:List UInt8} (h:Dr s=true) (h2:Mf l s=false):M8 l s=l++[s]:=by unfold M8;rw[h,h2];rfl
theorem Atq (w:World) (s:List UInt8) (ty:TypeId):Sl encS (w.alloc (.cells #[Ac s] ty)) (some ⟨w.heap.size,0,none⟩) 1 1 [s]:=Sl.new encS w [s] (by simp) #[Ac s] rfl ty
theorem Oy.le {w wr w2:World} {ks:List (List UInt8)} {k:Nat} {v:Value} (h:Below w.heap.size w wr) (hr:Ag encS 9 wr w.heap.size v (Ef (ks.take k))) (hb:Below wr.heap.size wr w2) (hk:k<ks.length) (he:Ef (ks.take (k+1))=Ef (ks.take k)) :
  Oy w w.heap.size ks v (.int .i64 ((k:Int)+1)) w2:=⟨k+1,by simp,hk,h.le hb,by rw[he];exact hr.mono hb⟩
theorem Adg {w:World} (c:Ce) (A:Option Addr) (m:Nat) (h:Ke w) (hk:c.key.length<=1000000) (ho:c.other.length<=1000000) :
  Calls Tryz.prog 83 #[Aq c A c.data.length m] w (Ret w (Vk w.heap.size (Cz c))):=by
 have F:=Avp (fun w1 (hb:Below w.heap.size w w1)=>Acl c A m (h.mono hb))
 cases hf:Br c with
 | false=>
  have e:Cz c=[]:=by unfold Cz;rw[hf];rfl
  rw[e]
  rw[hf] at F
  clear hf e
  obtain⟨op,key,other,item,qty,data⟩:=c
  unfold Aq at *
  simp only at *
  generalize data.length=n at *
  have HKL:=Avp (And.intro hk ho)
  clear h hk ho
  have B:=Avp (show Below w.heap.size w (w.alloc (.cells #[.int .i64 op,Ac key,Ac other,Ac item,.int .i64 qty,.slice A n m] 25)) by go_grown)
  have X:=Avp (Bx.new w #[.int .i64 op,Ac key,Ac other,Ac item,.int .i64 qty,.slice A n m] 25)
  have q0:=X.out.cell 0 rfl;have q1:=X.out.cell 1 rfl;have q2:=X.out.cell 2 rfl;have q3:=X.out.cell 3 rfl;have q4:=X.out.cell 4 rfl;have q5:=X.out.cell 5 rfl
  go_enter Tryz.func83,Tryz.ntmps83
  go_wp2_with fail
  refine(F.out _ B.out).mono ?_
  rintro _ w2 ⟨_,rfl,hb2,rfl⟩
  replace X:=Avp (X.out.mono hb2);replace B:=Avp (B.out.le hb2)
  clear hb2 q0 q1 q2 q3 q4 q5 F
  go_wp2
  go_ret
  exact⟨_,rfl,B.out,Ag.nil_ _ _ _ _⟩
 | true=>
  have e:Cz c=Fa (Ef [c.key,c.other]):=by unfold Cz;rw[hf];rfl
  rw[e]
  rw[hf] at F
  clear hf e
  obtain⟨op,key,other,item,qty,data⟩:=c
  unfold Aq at *
  simp only at *
  generalize data.length=n at *
  have HKL:=Avp (And.intro hk ho)
  clear h hk ho
  have B:=Avp (show Below w.heap.size w (w.alloc (.cells #[.int .i64 op,Ac key,Ac other,Ac item,.int .i64 qty,.slice A n m] 25)) by go_grown)
  have X:=Avp (Bx.new w #[.int .i64 op,Ac key,Ac other,Ac item,.int .i64 qty,.slice A n m] 25)
  have q0:=X.out.cell 0 rfl;have q1:=X.out.cell 1 rfl;have q2:=X.out.cell 2 rfl;have q3:=X.out.cell 3 rfl;have q4:=X.out.cell 4 rfl;have q5:=X.out.cell 5 rfl
  go_enter Tryz.func83,Tryz.ntmps83
  go_wp2_with fail
  refine(F.out _ B.out).mono ?_
  rintro _ w2 ⟨_,rfl,hb2,rfl⟩
  replace X:=Avp (X.out.mono hb2);replace B:=Avp (B.out.le hb2)
  clear hb2 q0 q1 q2 q3 q4 q5 F
  have q1:=X.out.cell 1 rfl;have q2:=X.out.cell 2 rfl
  have D:=Avp (Sl.new encS w2 [key,other] (by simp) #[Ac key,Ac other] rfl 9)
  have B3:=Avp (B.out.le (show Below w2.heap.size w2 (w2.alloc (.cells #[Ac key,Ac other] 9)) by go_grown))
  go_wp2_with fail
  obtain⟨G,hG⟩:∃ G,G=w2.heap.size:=⟨_,rfl⟩
  rw[<-hG] at D ⊢
  clear hG q1 q2 X B
  generalize w2.alloc (.cells #[Ac key,Ac other] 9)=w3 at *
  go_loopw [3,15] (fun v i wr=>Oy w3 w3.heap.size [key,other] v i wr) (fun _ i _=>2 - (intOf i).toNat)
  case atStart=>exact⟨0,rfl,Nat.zero_le _,Below.refl _ _,Ag.nil_ _ _ _ _⟩
  case round=>
   obtain⟨k,rfl,hk,hbr,hr⟩:=hrel
   have HR:=Avp hbr;have R:=Avp hr;have LK:=Avp hk
   clear hbr hr hk
   by_cases hlt:k<2
   ·obtain⟨b,o,s,hA,hbk,hm,hd,cs⟩:=(D.out.mono HR.out).at_ (i:=k) hlt
    cases hA
    have c0:wr.cell? ⟨G,k,none⟩=some (Ac s):=by have:=cs 0 _ rfl;simpa [encS] using this
    have hsl:s.length<=1000000:=by
     have h1:=HKL.out.1;have h2:=HKL.out.2
     have hk:k=0∨k=1:=by omega
     rcases hk with rfl | rfl
     ·simp at hm;subst hm;exact h1
     ·simp at hm;subst hm;exact h2
    have K1:=Avp (fun w=>Asi s w hsl)
    have HT:=Avp (Rf hm)
    have LT:=Avp hlt
    have hlen:=Io ([key,other].take k)
    have HLN:=Avp (show(Ef ([key,other].take k)).length<=2 by simp at hlen;omega)
    obtain⟨A',c',rfl,hs⟩:=R.out.sl
    have C1:=Avp (fun w2 (hb:Below wr.heap.size wr w2)=>Ab9 A' _ c' _ s w2 (hs.mono hb))
    clear hm hd cs hbk hsl hlen hs
    cases hkk:Dr s with
    | false=>
     rw[hkk] at K1
     have HE:=Avp (HT.out.trans (Acf hkk))
     clear hkk C1
     go_wp2_with fail
     refine(K1.out _).mono ?_
     rintro _ w4 ⟨_,rfl,hb4,rfl⟩
     have B4:=Avp hb4
     clear hb4
     go_wp2
     go_roundw
     case rel=>exact Oy.le HR.out R.out B4.out LT.out HE.out
     case measure=>simp[intOf];have:=LT.out;omega
    | true=>
     rw[hkk] at K1
     cases hh:Mf (Ef ([key,other].take k)) s with
     | true=>
      rw[hh] at C1
      have HE:=Avp (HT.out.trans (Zo hh))
      clear hkk hh
      go_wp2_with fail
      refine(K1.out _).mono ?_
      rintro _ w4 ⟨_,rfl,hb4,rfl⟩
      have B4:=Avp hb4
      clear hb4
      go_wp2_with fail
      refine(C1.out _ B4.out).mono ?_
      rintro _ w5 ⟨_,rfl,hb5,rfl⟩
      replace B4:=Avp (B4.out.le hb5)
      clear hb5
      go_wp2
      go_roundw
      case rel=>exact Oy.le HR.out R.out B4.out LT.out HE.out
      case measure=>simp[intOf];have:=LT.out;omega
     | false=>
      rw[hh] at C1
      have HE:=Avp (HT.out.trans (Yv hkk hh))
      clear hkk hh
      go_wp2_with fail
      refine(K1.out _).mono ?_
      rintro _ w4 ⟨_,rfl,hb4,rfl⟩
      have B4:=Avp hb4
      clear hb4
      go_wp2_with fail
      refine(C1.out _ B4.out).mono ?_
      rintro _ w5 ⟨_,rfl,hb5,rfl⟩
      replace B4:=Avp (B4.out.le hb5)
      clear hb5
      have D1:=Avp (Atq w5 s 9)
      have B5:=Avp (B4.out.le (show Below w5.heap.size w5 (w5.alloc (.cells #[Ac s] 9)) by go_grown))
      go_wp2_with (first
       | (at_builtin;refine Aj (B:=w3.heap.size) (l:=Ef ([key,other].take k)) (k:=[s]) Sw rfl rfl Tryz.underlying67 rfl rfl (R.out.mono B5.out) D1.out (by have:=HLN.out;simp;omega) (by have:=HR.out.size;have:=B5.out.size;omega) ?_;intro v6 w6 o6 g6 _;have O6:=Avp o6;have G6:=Avp g6;clear o6 g6)
       | fail)
      go_roundw
      case rel=>exact⟨k+1,by simp,LT.out,(HR.out.le B5.out).grown G6.out (by have:=HR.out.size;have:=B5.out.size;omega) (fun q hq=>(R.out.own q hq).1),by rw[HE.out];exact O6.out⟩
      case measure=>simp[intOf];have:=LT.out;omega
   ·obtain rfl:k=2:=by have:=LK.out;simp at this;omega
    have R2:=Avp (show Ag encS 9 wr w3.heap.size _ (Ef [key,other]) from R.out)
    have HLN:=Avp (Io [key,other])
    go_wp2_with fail
    refine(Apb _ _ _ _ R2.out (show Small _ from by have:=HLN.out;simp at this;unfold Small;omega)).mono ?_
    rintro _ w4 ⟨rfl,hb4,hs4⟩
    have B4:=Avp hb4;have S4:=Avp hs4
    clear hb4 hs4
    go_wp2
    go_ret
    exact⟨_,rfl,B3.out.le (Ae HR.out B4.out),S4.out.low B3.out.size⟩
def Ae8 (B:Nat) (l:List Int) (w:World) (v:Value):Prop:=∃ g,v = .tuple #[.slice (some ⟨g,0,none⟩) l.length l.length,.int .i64 0]∧Ag encI 3 w B (.slice (some ⟨g,0,none⟩) l.length l.length) l
structure Aus (w:World) (B g k:Nat) (l:List Int) (wr:World):Prop where
 bl:Below B w wr
 own:Ag encI 3 wr B (.slice (some ⟨g,0,none⟩) k k) l
def Aps (w:World) (B g k:Nat) (ks:List (List UInt8)) (i:Value) (wr:World):Prop:=∃ j:Nat,i = .int .i64 j∧j<=ks.length∧Aus w B g k (Ci (ks.take j) k) wr
theorem Amg {w:World} {A:Option Addr} {n c:Nat} {ks:List (List UInt8)} {k:Nat} (h:Sl encS w A n c ks) (g:N1 w) (hlm:ks.length<=1000) (hl:∀ s∈ks,s.length<=1000000) (h1:1<=k) (h2:k<=1024) :
  Calls Tryz.prog 135 #[.slice A n c,.int .i64 (k:Int)] w (Ret w (Ae8 w.heap.size (Ci ks k))):=by
 obtain⟨i,hi,hz,hsz,hby⟩:=info_parts (P:=Tryz.prog) (show(Tryz.prog.info? 3).map (fun i=>(i.zero,i.size,i.bytes))=some (some (.int .i64 0),1,8) by kernel_rfl)
 have HI:=Avp hi;have HZ:=Avp hz;have HS:=Avp hsz;have HY:=Avp hby
 have hn:=h.big
 have hnl:=h.len
 have H:=Avp h;have GG:=Avp g;have HL:=Avp hl;have K1:=Avp h1;have K2:=Avp h2;have NL:=Avp hnl;have LMX:=Avp hlm
 have S0:=Avp (Uy [] k w g (by simp) h1 h2)
 clear h g hl hlm hi hz hsz hby hnl
 go_enter Tryz.func135,Tryz.ntmps135
 go_wp2_with fail
 refine S0.out.mono ?_
 rintro _ w1 ⟨_,rfl,hb1,rfl⟩
 have B1:=Avp hb1
 clear hb1 S0
 go_wp2_with (first
  | (at_make;refine wpList_make_full w1 rfl _ _ 52 rfl w.heap.size 3 i _ 1 Tryz.underlying52 HI.out HZ.out HS.out .i64 .i64 k k k rfl rfl rfl rfl (by rw[HY.out];have:=K2.out;omega) (by have:=K2.out;unfold maxLen;omega) B1.out.size ?_;intro w6 ho hg;have HO:=Avp ho;have HG:=Avp hg;clear ho hg)
  | fail)
 obtain⟨r,hr⟩:∃ r,r=w1.heap.size:=⟨_,rfl⟩
 rw[<-hr] at HO ⊢
 have HO2:=Avp (show Ag encI 3 w6 w.heap.size (.slice (some ⟨r,0,none⟩) k k) (List.replicate k 0) by
  have:=HO.out
  rw[Me] at this
  unfold Ag
  rw[List.length_replicate]
  exact this)
 have RB:=Avp (show w.heap.size<=r by rw[hr];exact B1.out.size)
 have B6:=Avp (show Below w.heap.size w w6 from B1.out.grown HG.out B1.out.size (fun q hq=>nomatch hq))
 clear HO HG hr
 go_loopw [25] (fun i wr=>Aps w w.heap.size r k ks i wr) (fun i _=>n - (intOf i).toNat)
 case atStart=>exact⟨0,rfl,Nat.zero_le _,B6.out,HO2.out⟩
 case round=>
  obtain⟨j,rfl,hj,hbr,hr⟩:=hrel
  have HR:=Avp hbr;have R:=Avp hr;have LJ:=Avp hj
  clear hbr hr hj
  by_cases hlt:j<n
  ·obtain⟨b,o,s,hA,hbk,hm,hd,cs⟩:=(H.out.mono HR.out).at_ (i:=j) hlt
   have c0:wr.cell? ⟨b,o+j,none⟩=some (Ac s):=by have:=cs 0 _ rfl;simpa [encS] using this
   have hix:=(show(Instr.indexAt 67 (.slice A n c) (.int .i64 (j:Int))).run Tryz.prog wr = .ok (.pointer (some ⟨b,o+j,none⟩)) wr by rw[hA];simp[go_sem,hlt])
   have ST:=Avp (fun w2 (hb:Below wr.heap.size wr w2)=>Uy s k w2 ((GG.out.mono HR.out).mono hb) (HL.out s (List.mem_of_getElem? hm)) K1.out K2.out)
   have LT:=Avp hlt
   have HT:=Avp (Om (k:=k) hm)
   have hsl:Bs s k<k:=Nat.mod_lt _ K1.out
   have hlen:=Fz (ks.take j) k
   obtain⟨x,hx⟩:∃ x,(Ci (ks.take j) k)[Bs s k]?=some x:=⟨_,List.getElem?_eq_getElem (by rw[hlen];exact hsl)⟩
   have hxb:=Ti (ks.take j) k x (List.mem_of_getElem? hx)
   have hxk:x<=1000:=by
    have h9:(ks.take j).length<=ks.length:=by rw[List.length_take];omega
    have:=LMX.out
    omega
   have hx0:=hxb.1
   have SLT:=Avp hsl;have HX:=Avp hx;have HLN:=Avp hlen
   clear hm hA hd cs hxb hx hlen
   go_wp2_with fail
   refine(ST.out _ (by go_grown)).mono ?_
   rintro _ w4 ⟨_,rfl,hb4,rfl⟩
   have B4:=Avp hb4
   have R4:=Avp (R.out.mono hb4)
   clear hb4 c0 hix ST
   have cst:w4.cell? ⟨r,Bs s k,none⟩=some (.int .i64 x):=by
    have:=World.ownsRow.cells R4.out rfl _ _ (Enc.all_get (e:=encI) _ _ _ HX.out 0 (.int .i64 x) rfl)
    rw[Bz] at this
    simpa [encI] using this
   have SE:=Avp (R4.out.setEl (k:=Bs s k) (by rw[HLN.out];exact SLT.out) (x+1))
   have HA:=Avp (show Ij k (Ci (ks.take j) k) s=(Ci (ks.take j) k).set (Bs s k) (x+1) by unfold Ij;rw[List.getD_eq_getElem?_getD,HX.out];rfl)
   have fr:w4.frozen? ⟨r,Bs s k,none⟩=false:=Ag.frozen R4.out _
   generalize Bs s k=t at *
   go_wp2
   go_roundw
   case rel=>exact⟨j+1,by simp,by have:=NL.out;have:=LT.out;omega,Ae (HR.out.le B4.out) ((by simpa [World.setCells,encI] using SE.out.2:Upd r w4 _).below RB.out),by rw[HT.out,HA.out];simpa [World.setCells,encI] using SE.out.1⟩
   case measure=>simp[intOf];have:=LT.out;omega
  ·obtain rfl:j=n:=by have:=LJ.out;have:=NL.out;omega
   have hlen:=Fz ks k
   have R2:=Avp (show Ag encI 3 wr w.heap.size (.slice (some ⟨r,0,none⟩) (Ci ks k).length (Ci ks k).length) (Ci ks k) by
    have:=R.out
    rw[NL.out,List.take_length] at this
    rw[hlen];exact this)
   have HLN:=Avp hlen
   clear hlen
   go_wp2
   refine bodyPost_ret (v:=.tuple #[.slice (some ⟨r,0,none⟩) k k,.int .i64 0]) (by simp[results,Tryz.results135,go_sem]) rfl ?_
   exact⟨_,rfl,HR.out,r,by rw[HLN.out],R2.out⟩
theorem Ar2 {w:World} {A:Option Addr} {n c:Nat} (hn:n<=c):Calls Tryz.prog 136 #[.slice A n c] w (Ret w (Is (.slice A n n))):=by
 have h1:(0:Int)<=(n:Int):=by omega
 have h2:(n:Int)<=(c:Int):=by omega
 have hs:(Instr.sliceAt 52 (.slice A n c) none (some (.int .i64 (n:Int))) (some (.int .i64 (n:Int)))).run Tryz.prog w = .ok (.slice A n n) w:=by simp[go_sem,h2]
 clear h1 h2 hn
 go_enter Tryz.func136,Tryz.ntmps136
 go_wp2
 go_ret
 exact⟨_,rfl,Below.refl _ _,rfl⟩
def As0 (l:List Int) (w:World) (v:Value):Prop:=∃ A n c,v = .tuple #[.slice A n c,.int .i64 0]∧Sl encI w A n c l
def Api (w:World) (l:List Int) (k:Nat) (v i:Value) (wr:World):Prop:=∃ j:Nat,i = .int .i64 j∧j<=k∧Below w.heap.size w wr∧Ag encI 3 wr w.heap.size v (Hm l j)
theorem Abs {w:World} {A:Option Addr} {n c:Nat} {ks:List (List UInt8)} {k:Nat} (h:Sl encS w A n c ks) (g:N1 w) (hlm:ks.length<=1000) (hl:∀ s∈ks,s.length<=1000000) (h1:1<=k) (h2:k<=1024) :
  Calls Tryz.prog 82 #[.slice A n c,.int .i64 (k:Int)] w (Ret w (As0 (Jn ks k))):=by
 have S:=Avp (Amg h g hlm hl h1 h2)
 have K2:=Avp h2
 have hlen:=Fz ks k
 unfold Jn
 generalize Ci ks k=l at *
 have HLN:=Avp hlen
 clear h g hlm hl h1 h2 hlen
 go_enter Tryz.func82,Tryz.ntmps82
 go_wp2_with fail
 refine S.out.mono ?_
 rintro _ w1 ⟨_,rfl,hb1,g,rfl,ho⟩
 have B1:=Avp hb1;have O1:=Avp ho
 obtain⟨A',c',hA',hs⟩:=ho.sl
 cases hA'
 have H:=Avp hs
 have hbig:(l.length:Int)<=9223372036854775807:=by have:=HLN.out;have:=K2.out;omega
 clear hb1 ho S hs
 go_wp2
 go_loopw [8,22] (fun v i wr=>Api w1 l l.length v i wr) (fun _ i _=>l.length - (intOf i).toNat)
 case atStart=>exact⟨0,rfl,Nat.zero_le _,Below.refl _ _,Ag.nil_ _ _ _ _⟩
 case round=>
  obtain⟨j,rfl,hj,hbr,hr⟩:=hrel
  have HR:=Avp hbr;have R:=Avp hr;have LJ:=Avp hj
  clear hbr hr hj
  by_cases hlt:j<l.length
  ·obtain⟨b,o,x,hA,hbk,hm,hd,c0⟩:=(H.out.mono HR.out).int hlt
   cases hA
   have c0':wr.cell? ⟨g,j,none⟩=some (.int .i64 x):=by simpa using c0
   have LT:=Avp hlt
   have hg:l.getD j 0=x:=by rw[List.getD_eq_getElem?_getD,hm];rfl
   have HLE:=Avp (Acs l j)
   clear hm hd c0 hbk
   by_cases hx:0<x
   ·have hdx:decide ((0:Int)<x)=true:=decide_eq_true hx
    have HP:=Avp (Gk (l:=l) (j:=j) (by rw[hg];exact hx))
    have D1:=Avp (Fl wr (j:Int) 3)
    have B5:=Avp (show Below wr.heap.size wr (wr.alloc (.cells #[.int .i64 (j:Int)] 3)) by go_grown)
    clear hg
    go_wp2_with (first
     | (at_builtin;refine Aj (B:=w1.heap.size) (l:=Hm l j) (k:=[(j:Int)]) Ati rfl rfl Tryz.underlying52 rfl rfl (R.out.mono B5.out) D1.out (by have:=HLE.out;have:=HLN.out;have:=K2.out;have:=LT.out;simp;omega) (by have:=HR.out.size;have:=B5.out.size;omega) ?_;intro v6 w6 o6 g6 _;have O6:=Avp o6;have G6:=Avp g6;clear o6 g6)
     | fail)
    go_roundw
    case rel=>exact⟨j+1,by simp,LT.out,(HR.out.le B5.out).grown G6.out (by have:=HR.out.size;have:=B5.out.size;omega) (fun q hq=>(R.out.own q hq).1),by rw[HP.out];exact O6.out⟩
    case measure=>simp[intOf];have:=LT.out;omega
   ·have hdx:decide ((0:Int)<x)=false:=decide_eq_false hx
    have HP:=Avp (Hz (l:=l) (j:=j) (by rw[hg];exact hx))
    clear hg
    go_wp2
    go_roundw
    case rel=>exact⟨j+1,by simp,LT.out,HR.out,by rw[HP.out];exact R.out⟩
    case measure=>simp[intOf];have:=LT.out;omega
  ·obtain hjk:j=l.length:=by have:=LJ.out;omega
   have R2:=Avp (show Ag encI 3 wr w1.heap.size _ (Hm l k) by have:=R.out;rw[hjk,HLN.out] at this;exact this)
   obtain⟨A2,c2,rfl,hs2⟩:=R2.out.sl
   have S2:=Avp hs2
   have hcap:=hs2.cap
   have CL:=Avp (fun w=>Ar2 (w:=w) (A:=A2) hcap)
   have BR:=Avp (B1.out.le HR.out)
   clear hs2 hcap hjk
   go_wp2_with fail
   refine(CL.out _).mono ?_
   rintro _ w4 ⟨_,rfl,hb4,rfl⟩
   have B4:=Avp hb4
   clear hb4 CL
   go_wp2
   refine bodyPost_ret (v:=.tuple #[.slice A2 (Hm l k).length (Hm l k).length,.int .i64 0]) (by simp[results,Tryz.results82,go_sem]) rfl ?_
   exact⟨_,rfl,BR.out.le B4.out,A2,_,_,rfl,(S2.out.clip).mono B4.out⟩
def Dp (n:Nat):List Int:=[1]++((if 0<n then List.replicate n 2++[3] else [])++([4]++(List.replicate n 5++[6])))
def Es (c:Ce) (k:Nat):Nat:=if Bw c then (Jn (Cz c) k).length else 0
theorem Rk (c:Ce) (k:Nat):Es c k<=2:=by
 unfold Es
 split
 ·exact Nat.le_trans (Akk _ _) (Fw _)
 ·omega
def Ih (l:List Int) (e:Int) (w:World) (v:Value):Prop:=∃ A n c,v = .tuple #[.slice A n c,.int .i64 e]∧Sl encI w A n c l
theorem F8 (w:World) (x:Int) (ty:TypeId):(w.alloc (.cells #[.int .i64 x] ty)).cell? ⟨w.heap.size,0,none⟩=some (.int .i64 x):=by rw[cell_of_row _ _ _ _ _ (0,0) (heap_alloc_new w _)];rfl
theorem Bb {P:Program} {ops:Array Oper} {rest:List Oper} {a:Act} {w:World} {Q:Exit->Act->World->Prop} {xs:Array Operand} {tys:Array TypeId} {t2:TypeId} {d:Option Tmp} {pos:String} {after:Array Edge} {g:Option (Nat×Bool)} (h:Az (wpList P ops Q (⟨d,.call ⟨.builtin .append,xs,tys⟩,t2,pos,after,g⟩::rest) a w)):wpList P ops Q (⟨d,.call ⟨.builtin .append,xs,tys⟩,t2,pos,after,g⟩::rest) a w:=h
theorem Pz {w:World} (c:Ce) (A:Option Addr) (m:Nat) (s:Int) (g:Cr w) (hg:2<w.heap.size∧1<w.heap.size) (hk:c.key.length<=300) (ho:c.other.length<=300) (hi:c.item.length<=300) (hd:Sl encB w A c.data.length m c.data) (hdl:c.data.length<=300)
  (hno:En c=false∨s<1∨1024<s):Calls Tryz.prog 49 #[Aq c A c.data.length m,.int .i64 s] w (Ret w (Ih [] 2)):=by
 have T:=Avp (fun(w1:World) (hb:Below w.heap.size w w1)=>Se (w:=w1) c A m (g.mono hb) (by have:=hb.size;omega) hk ho hi (hd.mono hb) hdl)
 generalize En c=t at *
 clear g hg hk ho hi hd hdl
 obtain⟨op,key,other,item,qty,data⟩:=c
 unfold Aq at *
 simp only at *
 generalize data.length=n at *
 have B:=Avp (show Below w.heap.size w (w.alloc (.cells #[.int .i64 op,Ac key,Ac other,Ac item,.int .i64 qty,.slice A n m] 25)) by go_grown)
 have X:=Avp (Bx.new w #[.int .i64 op,Ac key,Ac other,Ac item,.int .i64 qty,.slice A n m] 25)
 obtain⟨N,hN⟩:∃ N,N=w.heap.size:=⟨_,rfl⟩
 rw[<-hN] at X
 go_enter Tryz.func49,Tryz.ntmps49
 go_wp2_with fail
 rw[<-hN]
 clear hN
 generalize w.alloc (.cells #[.int .i64 op,Ac key,Ac other,Ac item,.int .i64 qty,.slice A n m] 25)=w1 at *
 have q0:=X.out.cell 0 rfl;have q1:=X.out.cell 1 rfl;have q2:=X.out.cell 2 rfl;have q3:=X.out.cell 3 rfl;have q4:=X.out.cell 4 rfl;have q5:=X.out.cell 5 rfl
 go_wp2_with fail
 refine(T.out _ B.out).mono ?_
 rintro _ w2 ⟨_,rfl,hb2,rfl⟩
 replace B:=Avp (B.out.le hb2)
 clear hb2 T q0 q1 q2 q3 q4 q5 X
 cases t with
 | false=>
  clear hno
  go_wp2
  refine bodyPost_ret (v:=.tuple #[.slice none 0 0,.int .i64 2]) (by simp[results,Tryz.results49,go_sem]) rfl ?_
  exact⟨_,rfl,B.out,_,_,_,rfl,Sl.nil_ _ _⟩
 | true=>
  by_cases h1:s<1
  ·have d1:decide (s<1)=true:=decide_eq_true h1
   clear hno
   go_wp2
   refine bodyPost_ret (v:=.tuple #[.slice none 0 0,.int .i64 2]) (by simp[results,Tryz.results49,go_sem]) rfl ?_
   exact⟨_,rfl,B.out,_,_,_,rfl,Sl.nil_ _ _⟩
  ·have h2:1024<s:=by
    rcases hno with h | h | h
    ·cases h
    ·exact absurd h h1
    ·exact h
   clear hno
   go_wp2
   refine bodyPost_ret (v:=.tuple #[.slice none 0 0,.int .i64 2]) (by simp[results,Tryz.results49,go_sem]) rfl ?_
   exact⟨_,rfl,B.out,_,_,_,rfl,Sl.nil_ _ _⟩
theorem Ard {w:World} (c:Ce) (A:Option Addr) (m k:Nat) (g:Cr w) (pa:Ke w) (hg:2<w.heap.size∧1<w.heap.size) (hk:c.key.length<=300) (ho:c.other.length<=300) (hi:c.item.length<=300) (hd:Sl encB w A c.data.length m c.data) (hdl:c.data.length<=300)
  (ht:En c=true) (h1:1<=k) (h2:k<=1024) (hc:Bw c=true) (hz:(Jn (Cz c) k).length=0):Calls Tryz.prog 49 #[Aq c A c.data.length m,.int .i64 (k:Int)] w (Ret w (Ih (Dp 0) 0)):=by
 have T:=Avp (fun(w1:World) (hb:Below w.heap.size w w1)=>Se (w:=w1) c A m (g.mono hb) (by have:=hb.size;omega) hk ho hi (hd.mono hb) hdl)
 have CH:=Avp (fun(w1:World) (hb:Below w.heap.size w w1)=>Hn c A m (pa.mono hb))
 have KY:=Avp (fun(w1:World) (hb:Below w.heap.size w w1)=>Adg c A m (pa.mono hb) (by omega) (by omega))
 have GG:=Avp g
 have HL:=Avp (He c (by omega) (by omega));have KSL:=Avp (Fw c)
 rw[ht] at T;rw[hc] at CH
 generalize Cz c=ks at *
 have K1:=Avp h1;have K2:=Avp h2;have HZ:=Avp hz
 have d1:¬(k:Int)<1:=by omega
 have d2:¬(1024:Int)<(k:Int):=by omega
 clear g pa hg hk ho hi hd hdl ht hc hz h1 h2
 obtain⟨op,key,other,item,qty,data⟩:=c
 unfold Aq at *
 simp only at *
 generalize data.length=n at *
 have B:=Avp (show Below w.heap.size w (w.alloc (.cells #[.int .i64 op,Ac key,Ac other,Ac item,.int .i64 qty,.slice A n m] 25)) by go_grown)
 have X:=Avp (Bx.new w #[.int .i64 op,Ac key,Ac other,Ac item,.int .i64 qty,.slice A n m] 25)
 obtain⟨N,hN⟩:∃ N,N=w.heap.size:=⟨_,rfl⟩
 rw[<-hN] at X
 go_enter Tryz.func49,Tryz.ntmps49
 go_wp2_with fail
 rw[<-hN]
 clear hN
 generalize w.alloc (.cells #[.int .i64 op,Ac key,Ac other,Ac item,.int .i64 qty,.slice A n m] 25)=w1 at *
 have q0:=X.out.cell 0 rfl;have q1:=X.out.cell 1 rfl;have q2:=X.out.cell 2 rfl;have q3:=X.out.cell 3 rfl;have q4:=X.out.cell 4 rfl;have q5:=X.out.cell 5 rfl
 go_wp2_with fail
 refine(T.out _ B.out).mono ?_
 rintro _ w2 ⟨_,rfl,hb2,rfl⟩
 replace X:=Avp (X.out.mono hb2);replace B:=Avp (B.out.le hb2)
 replace q0:=X.out.cell 0 rfl;replace q1:=X.out.cell 1 rfl;replace q2:=X.out.cell 2 rfl;replace q3:=X.out.cell 3 rfl;replace q4:=X.out.cell 4 rfl;replace q5:=X.out.cell 5 rfl
 clear hb2 T
 go_wp2_with fail
 refine(CH.out _ B.out).mono ?_
 rintro _ w3 ⟨_,rfl,hb3,rfl⟩
 replace X:=Avp (X.out.mono hb3);replace B:=Avp (B.out.le hb3)
 replace q0:=X.out.cell 0 rfl;replace q1:=X.out.cell 1 rfl;replace q2:=X.out.cell 2 rfl;replace q3:=X.out.cell 3 rfl;replace q4:=X.out.cell 4 rfl;replace q5:=X.out.cell 5 rfl
 clear hb3 CH
 go_wp2_with fail
 refine(KY.out _ B.out).mono ?_
 rintro _ w4 ⟨_,rfl,hb4,hk4⟩
 obtain⟨A4,c4,rfl,s4⟩:=Ag.sl hk4
 have O:=Avp (Abs s4 ((GG.out.mono (B.out.le hb4)).sm) (by have:=KSL.out;omega) HL.out K1.out K2.out)
 replace X:=Avp (X.out.mono hb4);replace B:=Avp (B.out.le hb4)
 replace q0:=X.out.cell 0 rfl;replace q1:=X.out.cell 1 rfl;replace q2:=X.out.cell 2 rfl;replace q3:=X.out.cell 3 rfl;replace q4:=X.out.cell 4 rfl;replace q5:=X.out.cell 5 rfl
 clear hb4 KY hk4 s4 q0 q1 q2 q3 q4 q5 X
 go_wp2_with fail
 refine O.out.mono ?_
 rintro _ w5 ⟨_,rfl,hb5,A5,n5,c5,rfl,s5⟩
 replace B:=Avp (B.out.le hb5)
 obtain rfl:n5=0:=s5.len.trans HZ.out
 clear hb5 s5 O d1 d2 K1 K2 HL HZ GG
 have PP:=Avp ((Ag.oneNew encI w5 (1:Int) #[.int .i64 1] rfl 50 (by decide)).low (B':=w.heap.size) B.out.size)
 replace B:=Avp (B.out.le (show Below w5.heap.size w5 (w5.alloc (.cells #[.int .i64 1] 50)) by go_grown))
 go_wp2_with (first
  | (at_builtin;refine Bb ?_)
  | fail)
 rw[show w5.heap.size+1=(w5.alloc (.cells #[.int .i64 1] 50)).heap.size from by simp]
 generalize w5.alloc (.cells #[.int .i64 1] 50)=w6 at *
 have hbx:Below w6.heap.size w6 (w6.alloc (.cells #[.int .i64 4] 50)):=by go_grown
 replace PP:=Avp (PP.out.mono hbx);replace B:=Avp (B.out.le hbx)
 have QQ:=Avp (Fl w6 4 50)
 clear hbx
 unfold Az
 refine Aj (B:=w.heap.size) Er rfl rfl Tryz.underlying32 rfl rfl PP.out QQ.out (by simp) B.out.size ?_
 intro v7 w7 o9 g9 hz
 clear hz
 replace B:=Avp (B.out.grown g9 B.out.size (fun q hq=>(PP.out.own q hq).1))
 replace PP:=Avp o9
 clear o9 g9 QQ
 simp only[Act.put,List.setIfInBounds_toArray,List.set_cons_zero,List.set_cons_succ]
 go_wp2_with (first
  | (at_builtin;refine Bb ?_)
  | fail)
 refine(Wt (F8 w7 5 50)).mono ?_
 rintro _ w8 ⟨_,rfl,hbq,A',n',c',rfl,hs'⟩
 have hbx:Below w7.heap.size w7 w8:=Below.le (show Below w7.heap.size w7 (w7.alloc (.cells #[.int .i64 5] 50)) by go_grown) hbq
 obtain rfl:=hs'.len
 replace PP:=Avp (PP.out.mono hbx);replace B:=Avp (B.out.le hbx)
 have QQ:=Avp hs'
 clear hs' hbq hbx
 go_wp2_with (first
  | (at_builtin;refine Bb ?_)
  | fail)
 unfold Az
 refine Aj (B:=w.heap.size) Er rfl rfl Tryz.underlying32 rfl rfl PP.out QQ.out (by simp) B.out.size ?_
 intro v9 w9 o9 g9 hz
 clear hz
 replace B:=Avp (B.out.grown g9 B.out.size (fun q hq=>(PP.out.own q hq).1))
 replace PP:=Avp o9
 clear o9 g9 QQ
 simp only[Act.put,List.setIfInBounds_toArray,List.set_cons_zero,List.set_cons_succ]
 have hbx:Below w9.heap.size w9 (w9.alloc (.cells #[.int .i64 6] 50)):=by go_grown
 replace PP:=Avp (PP.out.mono hbx);replace B:=Avp (B.out.le hbx)
 have QQ:=Avp (Fl w9 6 50)
 clear hbx
 go_wp2_with (first
  | (at_builtin;refine Bb ?_)
  | fail)
 unfold Az
 refine Aj (B:=w.heap.size) Er rfl rfl Tryz.underlying32 rfl rfl PP.out QQ.out (by simp) B.out.size ?_
 intro v10 w10 o9 g9 hz
 clear hz
 replace B:=Avp (B.out.grown g9 B.out.size (fun q hq=>(PP.out.own q hq).1))
 replace PP:=Avp o9
 clear o9 g9 QQ
 simp only[Act.put,List.setIfInBounds_toArray,List.set_cons_zero,List.set_cons_succ]
 go_wp2
 obtain⟨A9,c9,e9,s9⟩:=Ag.sl PP.out
 refine bodyPost_ret (v:=.tuple #[v10,.int .i64 0]) (by simp[results,Tryz.results49,go_sem]) rfl ?_
 exact⟨_,rfl,B.out,A9,_,c9,by rw[e9],s9⟩
theorem Arn {w:World} (c:Ce) (A:Option Addr) (m k:Nat) (g:Cr w) (pa:Ke w) (hg:2<w.heap.size∧1<w.heap.size) (hk:c.key.length<=300) (ho:c.other.length<=300) (hi:c.item.length<=300) (hd:Sl encB w A c.data.length m c.data) (hdl:c.data.length<=300)
  (ht:En c=true) (h1:1<=k) (h2:k<=1024) (hc:Bw c=true) (hz:(Jn (Cz c) k).length=1):Calls Tryz.prog 49 #[Aq c A c.data.length m,.int .i64 (k:Int)] w (Ret w (Ih (Dp 1) 0)):=by
 have T:=Avp (fun(w1:World) (hb:Below w.heap.size w w1)=>Se (w:=w1) c A m (g.mono hb) (by have:=hb.size;omega) hk ho hi (hd.mono hb) hdl)
 have CH:=Avp (fun(w1:World) (hb:Below w.heap.size w w1)=>Hn c A m (pa.mono hb))
 have KY:=Avp (fun(w1:World) (hb:Below w.heap.size w w1)=>Adg c A m (pa.mono hb) (by omega) (by omega))
 have GG:=Avp g
 have HL:=Avp (He c (by omega) (by omega));have KSL:=Avp (Fw c)
 rw[ht] at T;rw[hc] at CH
 generalize Cz c=ks at *
 have K1:=Avp h1;have K2:=Avp h2;have HZ:=Avp hz
 have d1:¬(k:Int)<1:=by omega
 have d2:¬(1024:Int)<(k:Int):=by omega
 clear g pa hg hk ho hi hd hdl ht hc hz h1 h2
 obtain⟨op,key,other,item,qty,data⟩:=c
 unfold Aq at *
 simp only at *
 generalize data.length=n at *
 have B:=Avp (show Below w.heap.size w (w.alloc (.cells #[.int .i64 op,Ac key,Ac other,Ac item,.int .i64 qty,.slice A n m] 25)) by go_grown)
 have X:=Avp (Bx.new w #[.int .i64 op,Ac key,Ac other,Ac item,.int .i64 qty,.slice A n m] 25)
 obtain⟨N,hN⟩:∃ N,N=w.heap.size:=⟨_,rfl⟩
 rw[<-hN] at X
 go_enter Tryz.func49,Tryz.ntmps49
 go_wp2_with fail
 rw[<-hN]
 clear hN
 generalize w.alloc (.cells #[.int .i64 op,Ac key,Ac other,Ac item,.int .i64 qty,.slice A n m] 25)=w1 at *
 have q0:=X.out.cell 0 rfl;have q1:=X.out.cell 1 rfl;have q2:=X.out.cell 2 rfl;have q3:=X.out.cell 3 rfl;have q4:=X.out.cell 4 rfl;have q5:=X.out.cell 5 rfl
 go_wp2_with fail
 refine(T.out _ B.out).mono ?_
 rintro _ w2 ⟨_,rfl,hb2,rfl⟩
 replace X:=Avp (X.out.mono hb2);replace B:=Avp (B.out.le hb2)
 replace q0:=X.out.cell 0 rfl;replace q1:=X.out.cell 1 rfl;replace q2:=X.out.cell 2 rfl;replace q3:=X.out.cell 3 rfl;replace q4:=X.out.cell 4 rfl;replace q5:=X.out.cell 5 rfl
 clear hb2 T
 go_wp2_with fail
 refine(CH.out _ B.out).mono ?_
 rintro _ w3 ⟨_,rfl,hb3,rfl⟩
 replace X:=Avp (X.out.mono hb3);replace B:=Avp (B.out.le hb3)
 replace q0:=X.out.cell 0 rfl;replace q1:=X.out.cell 1 rfl;replace q2:=X.out.cell 2 rfl;replace q3:=X.out.cell 3 rfl;replace q4:=X.out.cell 4 rfl;replace q5:=X.out.cell 5 rfl
 clear hb3 CH
 go_wp2_with fail
 refine(KY.out _ B.out).mono ?_
 rintro _ w4 ⟨_,rfl,hb4,hk4⟩
 obtain⟨A4,c4,rfl,s4⟩:=Ag.sl hk4
 have O:=Avp (Abs s4 ((GG.out.mono (B.out.le hb4)).sm) (by have:=KSL.out;omega) HL.out K1.out K2.out)
 replace X:=Avp (X.out.mono hb4);replace B:=Avp (B.out.le hb4)
 replace q0:=X.out.cell 0 rfl;replace q1:=X.out.cell 1 rfl;replace q2:=X.out.cell 2 rfl;replace q3:=X.out.cell 3 rfl;replace q4:=X.out.cell 4 rfl;replace q5:=X.out.cell 5 rfl
 clear hb4 KY hk4 s4 q0 q1 q2 q3 q4 q5 X
 go_wp2_with fail
 refine O.out.mono ?_
 rintro _ w5 ⟨_,rfl,hb5,A5,n5,c5,rfl,s5⟩
 replace B:=Avp (B.out.le hb5)
 obtain rfl:n5=1:=s5.len.trans HZ.out
 clear hb5 s5 O d1 d2 K1 K2 HL HZ GG
 have PP:=Avp ((Ag.oneNew encI w5 (1:Int) #[.int .i64 1] rfl 50 (by decide)).low (B':=w.heap.size) B.out.size)
 replace B:=Avp (B.out.le (show Below w5.heap.size w5 (w5.alloc (.cells #[.int .i64 1] 50)) by go_grown))
 go_wp2_with (first
  | (at_builtin;refine Bb ?_)
  | fail)
 rw[show w5.heap.size+1=(w5.alloc (.cells #[.int .i64 1] 50)).heap.size from by simp]
 generalize w5.alloc (.cells #[.int .i64 1] 50)=w6 at *
 refine(Z5 (F8 w6 2 50)).mono ?_
 rintro _ w7 ⟨_,rfl,hbq,A',n',c',rfl,hs'⟩
 have hbx:Below w6.heap.size w6 w7:=Below.le (show Below w6.heap.size w6 (w6.alloc (.cells #[.int .i64 2] 50)) by go_grown) hbq
 obtain rfl:=hs'.len
 replace PP:=Avp (PP.out.mono hbx);replace B:=Avp (B.out.le hbx)
 have QQ:=Avp hs'
 clear hs' hbq hbx
 go_wp2_with (first
  | (at_builtin;refine Bb ?_)
  | fail)
 unfold Az
 refine Aj (B:=w.heap.size) Er rfl rfl Tryz.underlying32 rfl rfl PP.out QQ.out (by simp) B.out.size ?_
 intro v8 w8 o9 g9 hz
 clear hz
 replace B:=Avp (B.out.grown g9 B.out.size (fun q hq=>(PP.out.own q hq).1))
 replace PP:=Avp o9
 clear o9 g9 QQ
 simp only[Act.put,List.setIfInBounds_toArray,List.set_cons_zero,List.set_cons_succ]
 have hbx:Below w8.heap.size w8 (w8.alloc (.cells #[.int .i64 3] 50)):=by go_grown
 replace PP:=Avp (PP.out.mono hbx);replace B:=Avp (B.out.le hbx)
 have QQ:=Avp (Fl w8 3 50)
 clear hbx
 go_wp2_with (first
  | (at_builtin;refine Bb ?_)
  | fail)
 unfold Az
 refine Aj (B:=w.heap.size) Er rfl rfl Tryz.underlying32 rfl rfl PP.out QQ.out (by simp) B.out.size ?_
 intro v9 w9 o9 g9 hz
 clear hz
 replace B:=Avp (B.out.grown g9 B.out.size (fun q hq=>(PP.out.own q hq).1))
 replace PP:=Avp o9
 clear o9 g9 QQ
 simp only[Act.put,List.setIfInBounds_toArray,List.set_cons_zero,List.set_cons_succ]
 have hbx:Below w9.heap.size w9 (w9.alloc (.cells #[.int .i64 4] 50)):=by go_grown
 replace PP:=Avp (PP.out.mono hbx);replace B:=Avp (B.out.le hbx)
 have QQ:=Avp (Fl w9 4 50)
 clear hbx
 go_wp2_with (first
  | (at_builtin;refine Bb ?_)
  | fail)
 unfold Az
 refine Aj (B:=w.heap.size) Er rfl rfl Tryz.underlying32 rfl rfl PP.out QQ.out (by simp) B.out.size ?_
 intro v10 w10 o9 g9 hz
 clear hz
 replace B:=Avp (B.out.grown g9 B.out.size (fun q hq=>(PP.out.own q hq).1))
 replace PP:=Avp o9
 clear o9 g9 QQ
 simp only[Act.put,List.setIfInBounds_toArray,List.set_cons_zero,List.set_cons_succ]
 go_wp2_with (first
  | (at_builtin;refine Bb ?_)
  | fail)
 refine(Z5 (F8 w10 5 50)).mono ?_
 rintro _ w11 ⟨_,rfl,hbq,A',n',c',rfl,hs'⟩
 have hbx:Below w10.heap.size w10 w11:=Below.le (show Below w10.heap.size w10 (w10.alloc (.cells #[.int .i64 5] 50)) by go_grown) hbq
 obtain rfl:=hs'.len
 replace PP:=Avp (PP.out.mono hbx);replace B:=Avp (B.out.le hbx)
 have QQ:=Avp hs'
 clear hs' hbq hbx
 go_wp2_with (first
  | (at_builtin;refine Bb ?_)
  | fail)
 unfold Az
 refine Aj (B:=w.heap.size) Er rfl rfl Tryz.underlying32 rfl rfl PP.out QQ.out (by simp) B.out.size ?_
 intro v12 w12 o9 g9 hz
 clear hz
 replace B:=Avp (B.out.grown g9 B.out.size (fun q hq=>(PP.out.own q hq).1))
 replace PP:=Avp o9
 clear o9 g9 QQ
 simp only[Act.put,List.setIfInBounds_toArray,List.set_cons_zero,List.set_cons_succ]
 have hbx:Below w12.heap.size w12 (w12.alloc (.cells #[.int .i64 6] 50)):=by go_grown
 replace PP:=Avp (PP.out.mono hbx);replace B:=Avp (B.out.le hbx)
 have QQ:=Avp (Fl w12 6 50)
 clear hbx
 go_wp2_with (first
  | (at_builtin;refine Bb ?_)
  | fail)
 unfold Az
 refine Aj (B:=w.heap.size) Er rfl rfl Tryz.underlying32 rfl rfl PP.out QQ.out (by simp) B.out.size ?_
 intro v13 w13 o9 g9 hz
 clear hz
 replace B:=Avp (B.out.grown g9 B.out.size (fun q hq=>(PP.out.own q hq).1))
 replace PP:=Avp o9
 clear o9 g9 QQ
 simp only[Act.put,List.setIfInBounds_toArray,List.set_cons_zero,List.set_cons_succ]
 go_wp2
 obtain⟨A9,c9,e9,s9⟩:=Ag.sl PP.out
 refine bodyPost_ret (v:=.tuple #[v13,.int .i64 0]) (by simp[results,Tryz.results49,go_sem]) rfl ?_
 exact⟨_,rfl,B.out,A9,_,c9,by rw[e9],s9⟩
theorem Aq9 {w:World} (c:Ce) (A:Option Addr) (m k:Nat) (g:Cr w) (pa:Ke w) (hg:2<w.heap.size∧1<w.heap.size) (hk:c.key.length<=300) (ho:c.other.length<=300) (hi:c.item.length<=300) (hd:Sl encB w A c.data.length m c.data) (hdl:c.data.length<=300)
  (ht:En c=true) (h1:1<=k) (h2:k<=1024) (hc:Bw c=true) (hz:(Jn (Cz c) k).length=2):Calls Tryz.prog 49 #[Aq c A c.data.length m,.int .i64 (k:Int)] w (Ret w (Ih (Dp 2) 0)):=by
 have T:=Avp (fun(w1:World) (hb:Below w.heap.size w w1)=>Se (w:=w1) c A m (g.mono hb) (by have:=hb.size;omega) hk ho hi (hd.mono hb) hdl)
 have CH:=Avp (fun(w1:World) (hb:Below w.heap.size w w1)=>Hn c A m (pa.mono hb))
 have KY:=Avp (fun(w1:World) (hb:Below w.heap.size w w1)=>Adg c A m (pa.mono hb) (by omega) (by omega))
 have GG:=Avp g
 have HL:=Avp (He c (by omega) (by omega));have KSL:=Avp (Fw c)
 rw[ht] at T;rw[hc] at CH
 generalize Cz c=ks at *
 have K1:=Avp h1;have K2:=Avp h2;have HZ:=Avp hz
 have d1:¬(k:Int)<1:=by omega
 have d2:¬(1024:Int)<(k:Int):=by omega
 clear g pa hg hk ho hi hd hdl ht hc hz h1 h2
 obtain⟨op,key,other,item,qty,data⟩:=c
 unfold Aq at *
 simp only at *
 generalize data.length=n at *
 have B:=Avp (show Below w.heap.size w (w.alloc (.cells #[.int .i64 op,Ac key,Ac other,Ac item,.int .i64 qty,.slice A n m] 25)) by go_grown)
 have X:=Avp (Bx.new w #[.int .i64 op,Ac key,Ac other,Ac item,.int .i64 qty,.slice A n m] 25)
 obtain⟨N,hN⟩:∃ N,N=w.heap.size:=⟨_,rfl⟩
 rw[<-hN] at X
 go_enter Tryz.func49,Tryz.ntmps49
 go_wp2_with fail
 rw[<-hN]
 clear hN
 generalize w.alloc (.cells #[.int .i64 op,Ac key,Ac other,Ac item,.int .i64 qty,.slice A n m] 25)=w1 at *
 have q0:=X.out.cell 0 rfl;have q1:=X.out.cell 1 rfl;have q2:=X.out.cell 2 rfl;have q3:=X.out.cell 3 rfl;have q4:=X.out.cell 4 rfl;have q5:=X.out.cell 5 rfl
 go_wp2_with fail
 refine(T.out _ B.out).mono ?_
 rintro _ w2 ⟨_,rfl,hb2,rfl⟩
 replace X:=Avp (X.out.mono hb2);replace B:=Avp (B.out.le hb2)
 replace q0:=X.out.cell 0 rfl;replace q1:=X.out.cell 1 rfl;replace q2:=X.out.cell 2 rfl;replace q3:=X.out.cell 3 rfl;replace q4:=X.out.cell 4 rfl;replace q5:=X.out.cell 5 rfl
 clear hb2 T
 go_wp2_with fail
 refine(CH.out _ B.out).mono ?_
 rintro _ w3 ⟨_,rfl,hb3,rfl⟩
 replace X:=Avp (X.out.mono hb3);replace B:=Avp (B.out.le hb3)
 replace q0:=X.out.cell 0 rfl;replace q1:=X.out.cell 1 rfl;replace q2:=X.out.cell 2 rfl;replace q3:=X.out.cell 3 rfl;replace q4:=X.out.cell 4 rfl;replace q5:=X.out.cell 5 rfl
 clear hb3 CH
 go_wp2_with fail
 refine(KY.out _ B.out).mono ?_
 rintro _ w4 ⟨_,rfl,hb4,hk4⟩
 obtain⟨A4,c4,rfl,s4⟩:=Ag.sl hk4
 have O:=Avp (Abs s4 ((GG.out.mono (B.out.le hb4)).sm) (by have:=KSL.out;omega) HL.out K1.out K2.out)
 replace X:=Avp (X.out.mono hb4);replace B:=Avp (B.out.le hb4)
 replace q0:=X.out.cell 0 rfl;replace q1:=X.out.cell 1 rfl;replace q2:=X.out.cell 2 rfl;replace q3:=X.out.cell 3 rfl;replace q4:=X.out.cell 4 rfl;replace q5:=X.out.cell 5 rfl
 clear hb4 KY hk4 s4 q0 q1 q2 q3 q4 q5 X
 go_wp2_with fail
 refine O.out.mono ?_
 rintro _ w5 ⟨_,rfl,hb5,A5,n5,c5,rfl,s5⟩
 replace B:=Avp (B.out.le hb5)
 obtain rfl:n5=2:=s5.len.trans HZ.out
 clear hb5 s5 O d1 d2 K1 K2 HL HZ GG
 have PP:=Avp ((Ag.oneNew encI w5 (1:Int) #[.int .i64 1] rfl 50 (by decide)).low (B':=w.heap.size) B.out.size)
 replace B:=Avp (B.out.le (show Below w5.heap.size w5 (w5.alloc (.cells #[.int .i64 1] 50)) by go_grown))
 go_wp2_with (first
  | (at_builtin;refine Bb ?_)
  | fail)
 rw[show w5.heap.size+1=(w5.alloc (.cells #[.int .i64 1] 50)).heap.size from by simp]
 generalize w5.alloc (.cells #[.int .i64 1] 50)=w6 at *
 refine(Yt (F8 w6 2 50)).mono ?_
 rintro _ w7 ⟨_,rfl,hbq,A',n',c',rfl,hs'⟩
 have hbx:Below w6.heap.size w6 w7:=Below.le (show Below w6.heap.size w6 (w6.alloc (.cells #[.int .i64 2] 50)) by go_grown) hbq
 obtain rfl:=hs'.len
 replace PP:=Avp (PP.out.mono hbx);replace B:=Avp (B.out.le hbx)
 have QQ:=Avp hs'
 clear hs' hbq hbx
 go_wp2_with (first
  | (at_builtin;refine Bb ?_)
  | fail)
 unfold Az
 refine Aj (B:=w.heap.size) Er rfl rfl Tryz.underlying32 rfl rfl PP.out QQ.out (by simp) B.out.size ?_
 intro v8 w8 o9 g9 hz
 clear hz
 replace B:=Avp (B.out.grown g9 B.out.size (fun q hq=>(PP.out.own q hq).1))
 replace PP:=Avp o9
 clear o9 g9 QQ
 simp only[Act.put,List.setIfInBounds_toArray,List.set_cons_zero,List.set_cons_succ]
 have hbx:Below w8.heap.size w8 (w8.alloc (.cells #[.int .i64 3] 50)):=by go_grown
 replace PP:=Avp (PP.out.mono hbx);replace B:=Avp (B.out.le hbx)
 have QQ:=Avp (Fl w8 3 50)
 clear hbx
 go_wp2_with (first
  | (at_builtin;refine Bb ?_)
  | fail)
 unfold Az
 refine Aj (B:=w.heap.size) Er rfl rfl Tryz.underlying32 rfl rfl PP.out QQ.out (by simp) B.out.size ?_
 intro v9 w9 o9 g9 hz
 clear hz
 replace B:=Avp (B.out.grown g9 B.out.size (fun q hq=>(PP.out.own q hq).1))
 replace PP:=Avp o9
 clear o9 g9 QQ
 simp only[Act.put,List.setIfInBounds_toArray,List.set_cons_zero,List.set_cons_succ]
 have hbx:Below w9.heap.size w9 (w9.alloc (.cells #[.int .i64 4] 50)):=by go_grown
 replace PP:=Avp (PP.out.mono hbx);replace B:=Avp (B.out.le hbx)
 have QQ:=Avp (Fl w9 4 50)
 clear hbx
 go_wp2_with (first
  | (at_builtin;refine Bb ?_)
  | fail)
 unfold Az
 refine Aj (B:=w.heap.size) Er rfl rfl Tryz.underlying32 rfl rfl PP.out QQ.out (by simp) B.out.size ?_
 intro v10 w10 o9 g9 hz
 clear hz
 replace B:=Avp (B.out.grown g9 B.out.size (fun q hq=>(PP.out.own q hq).1))
 replace PP:=Avp o9
 clear o9 g9 QQ
 simp only[Act.put,List.setIfInBounds_toArray,List.set_cons_zero,List.set_cons_succ]
 go_wp2_with (first
  | (at_builtin;refine Bb ?_)
  | fail)
 refine(Yt (F8 w10 5 50)).mono ?_
 rintro _ w11 ⟨_,rfl,hbq,A',n',c',rfl,hs'⟩
 have hbx:Below w10.heap.size w10 w11:=Below.le (show Below w10.heap.size w10 (w10.alloc (.cells #[.int .i64 5] 50)) by go_grown) hbq
 obtain rfl:=hs'.len
 replace PP:=Avp (PP.out.mono hbx);replace B:=Avp (B.out.le hbx)
 have QQ:=Avp hs'
 clear hs' hbq hbx
 go_wp2_with (first
  | (at_builtin;refine Bb ?_)
  | fail)
 unfold Az
 refine Aj (B:=w.heap.size) Er rfl rfl Tryz.underlying32 rfl rfl PP.out QQ.out (by simp) B.out.size ?_
 intro v12 w12 o9 g9 hz
 clear hz
 replace B:=Avp (B.out.grown g9 B.out.size (fun q hq=>(PP.out.own q hq).1))
 replace PP:=Avp o9
 clear o9 g9 QQ
 simp only[Act.put,List.setIfInBounds_toArray,List.set_cons_zero,List.set_cons_succ]
 have hbx:Below w12.heap.size w12 (w12.alloc (.cells #[.int .i64 6] 50)):=by go_grown
 replace PP:=Avp (PP.out.mono hbx);replace B:=Avp (B.out.le hbx)
 have QQ:=Avp (Fl w12 6 50)
 clear hbx
 go_wp2_with (first
  | (at_builtin;refine Bb ?_)
  | fail)
 unfold Az
 refine Aj (B:=w.heap.size) Er rfl rfl Tryz.underlying32 rfl rfl PP.out QQ.out (by simp) B.out.size ?_
 intro v13 w13 o9 g9 hz
 clear hz
 replace B:=Avp (B.out.grown g9 B.out.size (fun q hq=>(PP.out.own q hq).1))
 replace PP:=Avp o9
 clear o9 g9 QQ
 simp only[Act.put,List.setIfInBounds_toArray,List.set_cons_zero,List.set_cons_succ]
 go_wp2
 obtain⟨A9,c9,e9,s9⟩:=Ag.sl PP.out
 refine bodyPost_ret (v:=.tuple #[v13,.int .i64 0]) (by simp[results,Tryz.results49,go_sem]) rfl ?_
 exact⟨_,rfl,B.out,A9,_,c9,by rw[e9],s9⟩
theorem Ap2 {w:World} (c:Ce) (A:Option Addr) (m k:Nat) (g:Cr w) (pa:Ke w) (hg:2<w.heap.size∧1<w.heap.size) (hk:c.key.length<=300) (ho:c.other.length<=300) (hi:c.item.length<=300) (hd:Sl encB w A c.data.length m c.data) (hdl:c.data.length<=300)
  (ht:En c=true) (h1:1<=k) (h2:k<=1024) (hc:Bw c=false):Calls Tryz.prog 49 #[Aq c A c.data.length m,.int .i64 (k:Int)] w (Ret w (Ih (Dp 0) 0)):=by
 have T:=Avp (fun(w1:World) (hb:Below w.heap.size w w1)=>Se (w:=w1) c A m (g.mono hb) (by have:=hb.size;omega) hk ho hi (hd.mono hb) hdl)
 have CH:=Avp (fun(w1:World) (hb:Below w.heap.size w w1)=>Hn c A m (pa.mono hb))
 have KY:=Avp (fun(w1:World) (hb:Below w.heap.size w w1)=>Adg c A m (pa.mono hb) (by omega) (by omega))
 have GG:=Avp g
 clear KY
 rw[ht] at T;rw[hc] at CH
 have d1:¬(k:Int)<1:=by omega
 have d2:¬(1024:Int)<(k:Int):=by omega
 clear g pa hg hk ho hi hd hdl ht hc h1 h2 GG
 obtain⟨op,key,other,item,qty,data⟩:=c
 unfold Aq at *
 simp only at *
 generalize data.length=n at *
 have B:=Avp (show Below w.heap.size w (w.alloc (.cells #[.int .i64 op,Ac key,Ac other,Ac item,.int .i64 qty,.slice A n m] 25)) by go_grown)
 have X:=Avp (Bx.new w #[.int .i64 op,Ac key,Ac other,Ac item,.int .i64 qty,.slice A n m] 25)
 obtain⟨N,hN⟩:∃ N,N=w.heap.size:=⟨_,rfl⟩
 rw[<-hN] at X
 go_enter Tryz.func49,Tryz.ntmps49
 go_wp2_with fail
 rw[<-hN]
 clear hN
 generalize w.alloc (.cells #[.int .i64 op,Ac key,Ac other,Ac item,.int .i64 qty,.slice A n m] 25)=w1 at *
 have q0:=X.out.cell 0 rfl;have q1:=X.out.cell 1 rfl;have q2:=X.out.cell 2 rfl;have q3:=X.out.cell 3 rfl;have q4:=X.out.cell 4 rfl;have q5:=X.out.cell 5 rfl
 go_wp2_with fail
 refine(T.out _ B.out).mono ?_
 rintro _ w2 ⟨_,rfl,hb2,rfl⟩
 replace X:=Avp (X.out.mono hb2);replace B:=Avp (B.out.le hb2)
 replace q0:=X.out.cell 0 rfl;replace q1:=X.out.cell 1 rfl;replace q2:=X.out.cell 2 rfl;replace q3:=X.out.cell 3 rfl;replace q4:=X.out.cell 4 rfl;replace q5:=X.out.cell 5 rfl
 clear hb2 T
 go_wp2_with fail
 refine(CH.out _ B.out).mono ?_
 rintro _ w3 ⟨_,rfl,hb3,rfl⟩
 replace X:=Avp (X.out.mono hb3);replace B:=Avp (B.out.le hb3)
 replace q0:=X.out.cell 0 rfl;replace q1:=X.out.cell 1 rfl;replace q2:=X.out.cell 2 rfl;replace q3:=X.out.cell 3 rfl;replace q4:=X.out.cell 4 rfl;replace q5:=X.out.cell 5 rfl
 clear hb3 CH
 clear d1 d2 q0 q1 q2 q3 q4 q5 X
 have PP:=Avp ((Ag.oneNew encI w3 (1:Int) #[.int .i64 1] rfl 50 (by decide)).low (B':=w.heap.size) B.out.size)
 replace B:=Avp (B.out.le (show Below w3.heap.size w3 (w3.alloc (.cells #[.int .i64 1] 50)) by go_grown))
 go_wp2_with (first
  | (at_builtin;refine Bb ?_)
  | fail)
 rw[show w3.heap.size+1=(w3.alloc (.cells #[.int .i64 1] 50)).heap.size from by simp]
 generalize w3.alloc (.cells #[.int .i64 1] 50)=w6 at *
 have hbx:Below w6.heap.size w6 (w6.alloc (.cells #[.int .i64 4] 50)):=by go_grown
 replace PP:=Avp (PP.out.mono hbx);replace B:=Avp (B.out.le hbx)
 have QQ:=Avp (Fl w6 4 50)
 clear hbx
 unfold Az
 refine Aj (B:=w.heap.size) Er rfl rfl Tryz.underlying32 rfl rfl PP.out QQ.out (by simp) B.out.size ?_
 intro v7 w7 o9 g9 hz
 clear hz
 replace B:=Avp (B.out.grown g9 B.out.size (fun q hq=>(PP.out.own q hq).1))
 replace PP:=Avp o9
 clear o9 g9 QQ
 simp only[Act.put,List.setIfInBounds_toArray,List.set_cons_zero,List.set_cons_succ]
 go_wp2_with (first
  | (at_builtin;refine Bb ?_)
  | fail)
 refine(Wt (F8 w7 5 50)).mono ?_
 rintro _ w8 ⟨_,rfl,hbq,A',n',c',rfl,hs'⟩
 have hbx:Below w7.heap.size w7 w8:=Below.le (show Below w7.heap.size w7 (w7.alloc (.cells #[.int .i64 5] 50)) by go_grown) hbq
 obtain rfl:=hs'.len
 replace PP:=Avp (PP.out.mono hbx);replace B:=Avp (B.out.le hbx)
 have QQ:=Avp hs'
 clear hs' hbq hbx
 go_wp2_with (first
  | (at_builtin;refine Bb ?_)
  | fail)
 unfold Az
 refine Aj (B:=w.heap.size) Er rfl rfl Tryz.underlying32 rfl rfl PP.out QQ.out (by simp) B.out.size ?_
 intro v9 w9 o9 g9 hz
 clear hz
 replace B:=Avp (B.out.grown g9 B.out.size (fun q hq=>(PP.out.own q hq).1))
 replace PP:=Avp o9
 clear o9 g9 QQ
 simp only[Act.put,List.setIfInBounds_toArray,List.set_cons_zero,List.set_cons_succ]
 have hbx:Below w9.heap.size w9 (w9.alloc (.cells #[.int .i64 6] 50)):=by go_grown
 replace PP:=Avp (PP.out.mono hbx);replace B:=Avp (B.out.le hbx)
 have QQ:=Avp (Fl w9 6 50)
 clear hbx
 go_wp2_with (first
  | (at_builtin;refine Bb ?_)
  | fail)
 unfold Az
 refine Aj (B:=w.heap.size) Er rfl rfl Tryz.underlying32 rfl rfl PP.out QQ.out (by simp) B.out.size ?_
 intro v10 w10 o9 g9 hz
 clear hz
 replace B:=Avp (B.out.grown g9 B.out.size (fun q hq=>(PP.out.own q hq).1))
 replace PP:=Avp o9
 clear o9 g9 QQ
 simp only[Act.put,List.setIfInBounds_toArray,List.set_cons_zero,List.set_cons_succ]
 go_wp2
 obtain⟨A9,c9,e9,s9⟩:=Ag.sl PP.out
 refine bodyPost_ret (v:=.tuple #[v10,.int .i64 0]) (by simp[results,Tryz.results49,go_sem]) rfl ?_
 exact⟨_,rfl,B.out,A9,_,c9,by rw[e9],s9⟩
theorem Yr {w:World} (c:Ce) (A:Option Addr) (m k:Nat) (g:Cr w) (pa:Ke w) (hg:2<w.heap.size∧1<w.heap.size) (hk:c.key.length<=300) (ho:c.other.length<=300) (hi:c.item.length<=300) (hd:Sl encB w A c.data.length m c.data) (hdl:c.data.length<=300)
  (ht:En c=true) (h1:1<=k) (h2:k<=1024):Calls Tryz.prog 49 #[Aq c A c.data.length m,.int .i64 (k:Int)] w (Ret w (Ih (Dp (Es c k)) 0)):=by
 have hle:=Rk c k
 unfold Es at hle ⊢
 cases hc:Bw c with
 | false=>exact Ap2 c A m k g pa hg hk ho hi hd hdl ht h1 h2 hc
 | true=>
  rw[hc,if_pos rfl] at hle
  rw[if_pos rfl]
  have hz:(Jn (Cz c) k).length=0∨(Jn (Cz c) k).length=1∨(Jn (Cz c) k).length=2:=by omega
  rcases hz with hz | hz | hz
  ·rw[hz];exact Ard c A m k g pa hg hk ho hi hd hdl ht h1 h2 hc hz
  ·rw[hz];exact Arn c A m k g pa hg hk ho hi hd hdl ht h1 h2 hc hz
  ·rw[hz];exact Aq9 c A m k g pa hg hk ho hi hd hdl ht h1 h2 hc hz
theorem An2 (w:World):Calls Tryz.prog 52 #[.int .i64 1] w (Ret w (Is (.tuple #[Dc true false true true false,.bool true]))):=by
 go_enter Tryz.func52,Tryz.ntmps52
 go_wp2
 refine bodyPost_ret (v:=.tuple #[Dc true false true true false,.bool true]) ?_ rfl ?_
 ·exact Ah Tryz.results52 rfl rfl (Bx.new w #[.bool true,.bool false,.bool true,.bool true,.bool false] 102) Tryz.underlying102 rfl (show(Tryz.prog.info? 102).map (·.size)=some 5 by kernel_rfl)
 exact⟨_,rfl,by go_grown,rfl⟩
theorem Am7 (w:World):Calls Tryz.prog 52 #[.int .i64 2] w (Ret w (Is (.tuple #[Dc true false true true false,.bool true]))):=by
 go_enter Tryz.func52,Tryz.ntmps52
 go_wp2
 refine bodyPost_ret (v:=.tuple #[Dc true false true true false,.bool true]) ?_ rfl ?_
 ·exact Ah Tryz.results52 rfl rfl (Bx.new w #[.bool true,.bool false,.bool true,.bool true,.bool false] 102) Tryz.underlying102 rfl (show(Tryz.prog.info? 102).map (·.size)=some 5 by kernel_rfl)
 exact⟨_,rfl,by go_grown,rfl⟩
theorem Al8 (w:World):Calls Tryz.prog 52 #[.int .i64 3] w (Ret w (Is (.tuple #[Dc true false true false false,.bool true]))):=by
 go_enter Tryz.func52,Tryz.ntmps52
 go_wp2
 refine bodyPost_ret (v:=.tuple #[Dc true false true false false,.bool true]) ?_ rfl ?_
 ·exact Ah Tryz.results52 rfl rfl (Bx.new w #[.bool true,.bool false,.bool true,.bool false,.bool false] 102) Tryz.underlying102 rfl (show(Tryz.prog.info? 102).map (·.size)=some 5 by kernel_rfl)
 exact⟨_,rfl,by go_grown,rfl⟩
theorem Alk (w:World):Calls Tryz.prog 52 #[.int .i64 4] w (Ret w (Is (.tuple #[Dc true false false false false,.bool true]))):=by
 go_enter Tryz.func52,Tryz.ntmps52
 go_wp2
 refine bodyPost_ret (v:=.tuple #[Dc true false false false false,.bool true]) ?_ rfl ?_
 ·exact Ah Tryz.results52 rfl rfl (Bx.new w #[.bool true,.bool false,.bool false,.bool false,.bool false] 102) Tryz.underlying102 rfl (show(Tryz.prog.info? 102).map (·.size)=some 5 by kernel_rfl)
 exact⟨_,rfl,by go_grown,rfl⟩
theorem Ane (w:World):Calls Tryz.prog 52 #[.int .i64 5] w (Ret w (Is (.tuple #[Dc true false false false false,.bool true]))):=by
 go_enter Tryz.func52,Tryz.ntmps52
 go_wp2
 refine bodyPost_ret (v:=.tuple #[Dc true false false false false,.bool true]) ?_ rfl ?_
 ·exact Ah Tryz.results52 rfl rfl (Bx.new w #[.bool true,.bool false,.bool false,.bool false,.bool false] 102) Tryz.underlying102 rfl (show(Tryz.prog.info? 102).map (·.size)=some 5 by kernel_rfl)
 exact⟨_,rfl,by go_grown,rfl⟩
theorem Amu (w:World):Calls Tryz.prog 52 #[.int .i64 6] w (Ret w (Is (.tuple #[Dc true true true false false,.bool true]))):=by
 go_enter Tryz.func52,Tryz.ntmps52
 go_wp2
 refine bodyPost_ret (v:=.tuple #[Dc true true true false false,.bool true]) ?_ rfl ?_
 ·exact Ah Tryz.results52 rfl rfl (Bx.new w #[.bool true,.bool true,.bool true,.bool false,.bool false] 102) Tryz.underlying102 rfl (show(Tryz.prog.info? 102).map (·.size)=some 5 by kernel_rfl)
 exact⟨_,rfl,by go_grown,rfl⟩
theorem Al6 (w:World):Calls Tryz.prog 52 #[.int .i64 7] w (Ret w (Is (.tuple #[Dc true true false false false,.bool true]))):=by
 go_enter Tryz.func52,Tryz.ntmps52
 go_wp2
 refine bodyPost_ret (v:=.tuple #[Dc true true false false false,.bool true]) ?_ rfl ?_
 ·exact Ah Tryz.results52 rfl rfl (Bx.new w #[.bool true,.bool true,.bool false,.bool false,.bool false] 102) Tryz.underlying102 rfl (show(Tryz.prog.info? 102).map (·.size)=some 5 by kernel_rfl)
 exact⟨_,rfl,by go_grown,rfl⟩
theorem Anu (w:World):Calls Tryz.prog 52 #[.int .i64 8] w (Ret w (Is (.tuple #[Dc false false false false true,.bool true]))):=by
 go_enter Tryz.func52,Tryz.ntmps52
 go_wp2
 refine bodyPost_ret (v:=.tuple #[Dc false false false false true,.bool true]) ?_ rfl ?_
 ·exact Ah Tryz.results52 rfl rfl (Bx.new w #[.bool false,.bool false,.bool false,.bool false,.bool true] 102) Tryz.underlying102 rfl (show(Tryz.prog.info? 102).map (·.size)=some 5 by kernel_rfl)
 exact⟨_,rfl,by go_grown,rfl⟩
theorem An5 (w:World):Calls Tryz.prog 52 #[.int .i64 9] w (Ret w (Is (.tuple #[Dc false false false false false,.bool true]))):=by
 go_enter Tryz.func52,Tryz.ntmps52
 go_wp2
 refine bodyPost_ret (v:=.tuple #[Dc false false false false false,.bool true]) ?_ rfl ?_
 ·exact Ah Tryz.results52 rfl rfl (Bx.new w #[.bool false,.bool false,.bool false,.bool false,.bool false] 102) Tryz.underlying102 rfl (show(Tryz.prog.info? 102).map (·.size)=some 5 by kernel_rfl)
 exact⟨_,rfl,by go_grown,rfl⟩
theorem Ah4 (w:World):Calls Tryz.prog 52 #[.int .i64 10] w (Ret w (Is (.tuple #[Dc false false false false false,.bool true]))):=by
 go_enter Tryz.func52,Tryz.ntmps52
 go_wp2
 refine bodyPost_ret (v:=.tuple #[Dc false false false false false,.bool true]) ?_ rfl ?_
 ·exact Ah Tryz.results52 rfl rfl (Bx.new w #[.bool false,.bool false,.bool false,.bool false,.bool false] 102) Tryz.underlying102 rfl (show(Tryz.prog.info? 102).map (·.size)=some 5 by kernel_rfl)
 exact⟨_,rfl,by go_grown,rfl⟩
theorem Akv (w:World):Calls Tryz.prog 52 #[.int .i64 11] w (Ret w (Is (.tuple #[Dc false false false false false,.bool true]))):=by
 go_enter Tryz.func52,Tryz.ntmps52
 go_wp2
 refine bodyPost_ret (v:=.tuple #[Dc false false false false false,.bool true]) ?_ rfl ?_
 ·exact Ah Tryz.results52 rfl rfl (Bx.new w #[.bool false,.bool false,.bool false,.bool false,.bool false] 102) Tryz.underlying102 rfl (show(Tryz.prog.info? 102).map (·.size)=some 5 by kernel_rfl)
 exact⟨_,rfl,by go_grown,rfl⟩
theorem Akb (o:Int) (h:isO o=false) (w:World):Calls Tryz.prog 52 #[.int .i64 o] w (Ret w (Is (.tuple #[Dc false false false false false,.bool false]))):=by
 obtain⟨h1,h2,h3,h4,h5,h6,h7,h8,h9,h10,h11⟩:=Nl h
 clear h
 go_enter Tryz.func52,Tryz.ntmps52
 go_wp2
 refine bodyPost_ret (v:=.tuple #[Dc false false false false false,.bool false]) ?_ rfl ?_
 ·exact Ah Tryz.results52 rfl rfl (Bx.new w #[.bool false,.bool false,.bool false,.bool false,.bool false] 102) Tryz.underlying102 rfl (show(Tryz.prog.info? 102).map (·.size)=some 5 by kernel_rfl)
 exact⟨_,rfl,by go_grown,rfl⟩
theorem Aqu (o:Int) (w:World):Calls Tryz.prog 52 #[.int .i64 o] w (Ret w (Is (.tuple #[Dc (kO o) (oO o) (iO o) (qO o) (dO o),.bool (isO o)]))):=by
 rcases Py o with rfl | rfl | rfl | rfl | rfl | rfl | rfl | rfl | rfl | rfl | rfl | h
 ·exact An2 w
 ·exact Am7 w
 ·exact Al8 w
 ·exact Alk w
 ·exact Ane w
 ·exact Amu w
 ·exact Al6 w
 ·exact Anu w
 ·exact An5 w
 ·exact Ah4 w
 ·exact Akv w
 ·obtain⟨e1,e2,e3,e4,e5⟩:=Xw h
  rw[e1,e2,e3,e4,e5,h]
  exact Akb o h w
theorem Va (c:Ce) (A:Option Addr) (m:Nat) (w:World):Calls Tryz.prog 26 #[Aq c A c.data.length m] w (Ret w (IsB (Br c))):=by
 obtain⟨op,key,other,item,qty,data⟩:=c
 unfold Aq Br
 simp only
 generalize data.length=n at *
 have HB:=Avp (show Below w.heap.size w (w.alloc (.cells #[.int .i64 op,Ac key,Ac other,Ac item,.int .i64 qty,.slice A n m] 25)) by go_grown)
 have F:=Avp (Aqu op (w.alloc (.cells #[.int .i64 op,Ac key,Ac other,Ac item,.int .i64 qty,.slice A n m] 25)))
 have X:=Avp (Bx.new w #[.int .i64 op,Ac key,Ac other,Ac item,.int .i64 qty,.slice A n m] 25)
 obtain⟨N,hN⟩:∃ N,N=w.heap.size:=⟨_,rfl⟩
 rw[<-hN] at X
 generalize kO op=a at *
 generalize oO op=b at *
 generalize iO op=c at *
 generalize qO op=d at *
 generalize dO op=e at *
 generalize isO op=i at *
 go_enter Tryz.func26,Tryz.ntmps26
 go_wp2_with fail
 rw[<-hN]
 clear hN
 refine F.out.mono ?_
 rintro _ w1 ⟨_,rfl,hb1,rfl⟩
 have X1:=Avp (X.out.mono hb1)
 have B1:=Avp (HB.out.le hb1)
 have q1:=X1.out.cell 1 rfl;have q2:=X1.out.cell 2 rfl;have q3:=X1.out.cell 3 rfl;have q4:=X1.out.cell 4 rfl;have q5:=X1.out.cell 5 rfl
 have hNl:=X1.out.lt
 clear hb1 F X
 cases i with
 | false=>
  go_wp2
  go_ret
  exact Ay rfl (B1.out.le (by go_grown))
 | true=>
  go_wp2
  all_goals go_ret
  all_goals exact Ay (by clear B1 X1 HB;simp_all) (B1.out.le (by go_grown))
theorem Arw (c:Ce) (A:Option Addr) (m:Nat) (w:World):Calls Tryz.prog 8 #[Aq c A c.data.length m] w (Ret w (IsB (En c))):=by
 have F:=Avp (fun w1=>Va c A m w1)
 obtain⟨r,hr⟩:∃ r,r=En c:=⟨_,rfl⟩
 rw[<-hr]
 unfold En at hr
 generalize Br c=f at *
 obtain⟨op,key,other,item,qty,data⟩:=c
 unfold Aq at *
 simp only at *
 generalize data.length=n at *
 by_cases h9:op=9
 ·rw[if_pos h9] at hr
  subst hr
  subst h9
  have B:=Avp (show Below w.heap.size w (w.alloc (.cells #[.int .i64 9,Ac key,Ac other,Ac item,.int .i64 qty,.slice A n m] 25)) by go_grown)
  clear F
  go_enter Tryz.func8,Tryz.ntmps8
  go_wp2
  go_ret
  exact Ay rfl B.out
 ·rw[if_neg h9] at hr
  subst hr
  have hne:(op != 9)=true:=by simpa using h9
  clear h9
  have B:=Avp (show Below w.heap.size w (w.alloc (.cells #[.int .i64 op,Ac key,Ac other,Ac item,.int .i64 qty,.slice A n m] 25)) by go_grown)
  have X:=Avp (Bx.new w #[.int .i64 op,Ac key,Ac other,Ac item,.int .i64 qty,.slice A n m] 25)
  have q0:=X.out.cell 0 rfl;have q1:=X.out.cell 1 rfl;have q2:=X.out.cell 2 rfl;have q3:=X.out.cell 3 rfl;have q4:=X.out.cell 4 rfl;have q5:=X.out.cell 5 rfl
  go_enter Tryz.func8,Tryz.ntmps8
  go_wp2_with fail
  refine(F.out _).mono ?_
  rintro _ w2 ⟨_,rfl,hb2,rfl⟩
  replace B:=Avp (B.out.le hb2)
  replace X:=Avp (X.out.mono hb2)
  clear q0 q1 q2 q3 q4 q5
  have q0:=X.out.cell 0 rfl
  clear hb2 X F
  go_wp2
  go_ret
  exact Ay rfl B.out
theorem Mn (c:Ce) (A:Option Addr) (m:Nat) (w:World):Calls Tryz.prog 28 #[Aq c A c.data.length m] w (Ret w (IsB (Bw c))):=by
 have F:=Avp (fun w1=>Va c A m w1)
 unfold Bw
 generalize Br c=f at *
 obtain⟨op,key,other,item,qty,data⟩:=c
 unfold Aq at *
 simp only at *
 generalize data.length=n at *
 by_cases h4:op=4
 ·subst h4
  cases f
  all_goals
   skip
   have B:=Avp (show Below w.heap.size w (w.alloc (.cells #[.int .i64 4,Ac key,Ac other,Ac item,.int .i64 qty,.slice A n m] 25)) by go_grown)
   have X:=Avp (Bx.new w #[.int .i64 4,Ac key,Ac other,Ac item,.int .i64 qty,.slice A n m] 25)
   have q0:=X.out.cell 0 rfl;have q1:=X.out.cell 1 rfl;have q2:=X.out.cell 2 rfl;have q3:=X.out.cell 3 rfl;have q4:=X.out.cell 4 rfl;have q5:=X.out.cell 5 rfl
   go_enter Tryz.func28,Tryz.ntmps28
   go_wp2_with fail
   refine(F.out _).mono ?_
   rintro _ w2 ⟨_,rfl,hb2,rfl⟩
   replace B:=Avp (B.out.le hb2)
   replace X:=Avp (X.out.mono hb2)
   clear q0 q1 q2 q3 q4 q5
   have q0:=X.out.cell 0 rfl
   clear hb2 X F
   go_wp2
   go_ret
   exact Ay rfl B.out
 by_cases h8:op=8
 ·subst h8
  cases f
  all_goals
   skip
   have B:=Avp (show Below w.heap.size w (w.alloc (.cells #[.int .i64 8,Ac key,Ac other,Ac item,.int .i64 qty,.slice A n m] 25)) by go_grown)
   have X:=Avp (Bx.new w #[.int .i64 8,Ac key,Ac other,Ac item,.int .i64 qty,.slice A n m] 25)
   have q0:=X.out.cell 0 rfl;have q1:=X.out.cell 1 rfl;have q2:=X.out.cell 2 rfl;have q3:=X.out.cell 3 rfl;have q4:=X.out.cell 4 rfl;have q5:=X.out.cell 5 rfl
   go_enter Tryz.func28,Tryz.ntmps28
   go_wp2_with fail
   refine(F.out _).mono ?_
   rintro _ w2 ⟨_,rfl,hb2,rfl⟩
   replace B:=Avp (B.out.le hb2)
   replace X:=Avp (X.out.mono hb2)
   clear q0 q1 q2 q3 q4 q5
   have q0:=X.out.cell 0 rfl
   clear hb2 X F
   go_wp2
   go_ret
   exact Ay rfl B.out
 by_cases h10:op=10
 ·subst h10
  cases f
  all_goals
   skip
   have B:=Avp (show Below w.heap.size w (w.alloc (.cells #[.int .i64 10,Ac key,Ac other,Ac item,.int .i64 qty,.slice A n m] 25)) by go_grown)
   have X:=Avp (Bx.new w #[.int .i64 10,Ac key,Ac other,Ac item,.int .i64 qty,.slice A n m] 25)
   have q0:=X.out.cell 0 rfl;have q1:=X.out.cell 1 rfl;have q2:=X.out.cell 2 rfl;have q3:=X.out.cell 3 rfl;have q4:=X.out.cell 4 rfl;have q5:=X.out.cell 5 rfl
   go_enter Tryz.func28,Tryz.ntmps28
   go_wp2_with fail
   refine(F.out _).mono ?_
   rintro _ w2 ⟨_,rfl,hb2,rfl⟩
   replace B:=Avp (B.out.le hb2)
   replace X:=Avp (X.out.mono hb2)
   clear q0 q1 q2 q3 q4 q5
   have q0:=X.out.cell 0 rfl
   clear hb2 X F
   go_wp2
   go_ret
   exact Ay rfl B.out
 by_cases h11:op=11
 ·subst h11
  cases f
  all_goals
   skip
   have B:=Avp (show Below w.heap.size w (w.alloc (.cells #[.int .i64 11,Ac key,Ac other,Ac item,.int .i64 qty,.slice A n m] 25)) by go_grown)
   have X:=Avp (Bx.new w #[.int .i64 11,Ac key,Ac other,Ac item,.int .i64 qty,.slice A n m] 25)
   have q0:=X.out.cell 0 rfl;have q1:=X.out.cell 1 rfl;have q2:=X.out.cell 2 rfl;have q3:=X.out.cell 3 rfl;have q4:=X.out.cell 4 rfl;have q5:=X.out.cell 5 rfl
   go_enter Tryz.func28,Tryz.ntmps28
   go_wp2_with fail
   refine(F.out _).mono ?_
   rintro _ w2 ⟨_,rfl,hb2,rfl⟩
   replace B:=Avp (B.out.le hb2)
   replace X:=Avp (X.out.mono hb2)
   clear q0 q1 q2 q3 q4 q5
   have q0:=X.out.cell 0 rfl
   clear hb2 X F
   go_wp2
   go_ret
   exact Ay rfl B.out
 have b4:(op==4)=false:=by simpa using h4
 have b8:(op==8)=false:=by simpa using h8
 have b10:(op==10)=false:=by simpa using h10
 have b11:(op==11)=false:=by simpa using h11
 rw[b4,b8,b10,b11]
 clear h4 h8 h10 h11
 cases f
 all_goals
  skip
  have B:=Avp (show Below w.heap.size w (w.alloc (.cells #[.int .i64 op,Ac key,Ac other,Ac item,.int .i64 qty,.slice A n m] 25)) by go_grown)
  have X:=Avp (Bx.new w #[.int .i64 op,Ac key,Ac other,Ac item,.int .i64 qty,.slice A n m] 25)
  have q0:=X.out.cell 0 rfl;have q1:=X.out.cell 1 rfl;have q2:=X.out.cell 2 rfl;have q3:=X.out.cell 3 rfl;have q4:=X.out.cell 4 rfl;have q5:=X.out.cell 5 rfl
  go_enter Tryz.func28,Tryz.ntmps28
  go_wp2_with fail
  refine(F.out _).mono ?_
  rintro _ w2 ⟨_,rfl,hb2,rfl⟩
  replace B:=Avp (B.out.le hb2)
  replace X:=Avp (X.out.mono hb2)
  clear q0 q1 q2 q3 q4 q5
  have q0:=X.out.cell 0 rfl
  clear hb2 X F
  go_wp2
  go_ret
  exact Ay rfl B.out
theorem Ag1 {s:List UInt8} {k:Nat} {c:UInt8} (h:s[k]?=some c) (w:World):(Instr.index 9 (Ac s) (.int .i64 (k:Int))).run Tryz.prog w = .ok (.int .u8 c.toNat) w:=by
 obtain⟨hk,he⟩:=List.getElem?_eq_some_iff.1 h
 have h1:(k:Int)<(s.length:Int):=by omega
 have h2:∀ h:k<(ByteArray.mk ⟨s⟩).size,(ByteArray.mk ⟨s⟩)[k]=c:=fun h=>by
  show(⟨s⟩:Array UInt8)[k]'(by simpa using hk)=c
  simpa using he
 simp[go_sem,h1,h2]
theorem Afp (c:UInt8):Jd c = !((decide ((c.toNat:Int)<97)||decide ((122:Int)<(c.toNat:Int)))&&((decide ((c.toNat:Int)<48)||decide ((57:Int)<(c.toNat:Int)))&&(((c.toNat:Int) != 45)&&(((c.toNat:Int) != 95)&&(((c.toNat:Int) != 46)&&((c.toNat:Int) != 47)))))):=by
 have:∀ c:Fin 256,Jd (UInt8.ofNat c.1) = !((decide ((c.1:Int)<97)||decide ((122:Int)<(c.1:Int)))&&((decide ((c.1:Int)<48)||decide ((57:Int)<(c.1:Int)))&&(((c.1:Int) != 45)&&(((c.1:Int) != 95)&&(((c.1:Int) != 46)&&((c.1:Int) != 47)))))):=by decide +kernel
 have h:=this ⟨c.toNat,UInt8.toNat_lt c⟩
 simpa using h
theorem Ave (s:List UInt8) (w:World) (hs:s.length<=1000000):Calls Tryz.prog 54 #[Ac s] w (Ret w (IsB (Dr s))):=by
 obtain⟨r,hr⟩:∃ r,r=Dr s:=⟨_,rfl⟩
 rw[<-hr]
 have HR:=Avp hr
 have hbig:(s.length:Int)<=9223372036854775807:=by omega
 have HS:=Avp hs
 clear hr hs
 go_enter Tryz.func54,Tryz.ntmps54
 go_wp2
 go_loopw [3] (fun i wr=>Ail w s.length s i wr) (fun i _=>s.length - (intOf i).toNat)
 case atStart=>exact⟨0,rfl,Nat.zero_le _,Below.refl _ _,by rw[List.drop_zero]⟩
 case round=>
  obtain⟨k,rfl,hk,hb,hal⟩:=hrel
  have HB:=Avp hb;have AL:=Avp hal;have LK:=Avp hk
  clear hb hal hk
  by_cases hlt:k<s.length
  ·obtain⟨c,hc⟩:∃ c,s[k]?=some c:=⟨_,List.getElem?_eq_getElem hlt⟩
   have hix:=Ag1 hc wr
   have D1:=Avp (show s.drop k=c::s.drop (k+1) by rw[List.drop_eq_getElem_cons hlt];congr 1;exact(List.getElem?_eq_some_iff.1 hc).2)
   have LT:=Avp hlt
   have hm256:=c.toNat_lt
   obtain⟨b1,d1⟩:∃ b,decide ((c.toNat:Int)<97)=b:=⟨_,rfl⟩
   obtain⟨b2,d2⟩:∃ b,decide ((122:Int)<(c.toNat:Int))=b:=⟨_,rfl⟩
   obtain⟨b3,d3⟩:∃ b,decide ((c.toNat:Int)<48)=b:=⟨_,rfl⟩
   obtain⟨b4,d4⟩:∃ b,decide ((57:Int)<(c.toNat:Int))=b:=⟨_,rfl⟩
   obtain⟨b5,d5⟩:∃ b,((c.toNat:Int) != 45)=b:=⟨_,rfl⟩
   obtain⟨b6,d6⟩:∃ b,((c.toNat:Int) != 95)=b:=⟨_,rfl⟩
   obtain⟨b7,d7⟩:∃ b,((c.toNat:Int) != 46)=b:=⟨_,rfl⟩
   obtain⟨b8,d8⟩:∃ b,((c.toNat:Int) != 47)=b:=⟨_,rfl⟩
   have KB:=Avp (Afp c)
   rw[d1,d2,d3,d4,d5,d6,d7,d8] at KB
   generalize c.toNat=m at *
   clear hc hm256
   have HKS:=Avp (show ∀ b,Jd c=b->s.all Jd=(b&&(s.drop (k+1)).all Jd) from fun b e=>by rw[AL.out,D1.out,List.all_cons,e])
   generalize Jd c=kb at *
   cases hq:((b1||b2)&&((b3||b4)&&(b5&&(b6&&(b7&&b8))))) with
   | true=>
    rw[hq] at KB
    have E:=Avp (show false=r by rw[HR.out];unfold Dr;rw[HKS.out _ KB.out];rfl)
    clear AL D1 HKS KB HR
    simp only[Bool.and_eq_true] at hq
    obtain⟨h1,h2,h5,h6,h7,h8⟩:=hq
    subst h5;subst h6;subst h7;subst h8
    cases b1 <;> cases b3
    all_goals simp only[Bool.true_or,Bool.false_or] at h1 h2
    all_goals (try subst h1)
    all_goals (try subst h2)
    all_goals go_wp2
    all_goals go_ret
    all_goals exact Ay E.out HB.out
   | false=>
    rw[hq] at KB
    have E:=Avp (show s.all Jd=(s.drop (k+1)).all Jd by rw[HKS.out _ KB.out];rfl)
    clear AL D1 HKS KB HR
    cases b1
    ·cases b2
     ·go_wp2
      go_roundw
      case rel=>exact⟨k+1,by simp,LT.out,HB.out,E.out⟩
      case measure=>simp[intOf];have:=LT.out;omega
     ·skip
      cases b3
      ·cases b4
       ·skip
        go_wp2
        go_roundw
        case rel=>exact⟨k+1,by simp,LT.out,HB.out,E.out⟩
        case measure=>simp[intOf];have:=LT.out;omega
       ·cases b5
        ·skip
         go_wp2
         go_roundw
         case rel=>exact⟨k+1,by simp,LT.out,HB.out,E.out⟩
         case measure=>simp[intOf];have:=LT.out;omega
        ·cases b6
         ·skip
          go_wp2
          go_roundw
          case rel=>exact⟨k+1,by simp,LT.out,HB.out,E.out⟩
          case measure=>simp[intOf];have:=LT.out;omega
         ·cases b7
          ·skip
           go_wp2
           go_roundw
           case rel=>exact⟨k+1,by simp,LT.out,HB.out,E.out⟩
           case measure=>simp[intOf];have:=LT.out;omega
          ·cases b8
           ·skip
            go_wp2
            go_roundw
            case rel=>exact⟨k+1,by simp,LT.out,HB.out,E.out⟩
            case measure=>simp[intOf];have:=LT.out;omega
           ·cases hq
      ·cases b5
       ·skip
        go_wp2
        go_roundw
        case rel=>exact⟨k+1,by simp,LT.out,HB.out,E.out⟩
        case measure=>simp[intOf];have:=LT.out;omega
       ·cases b6
        ·skip
         go_wp2
         go_roundw
         case rel=>exact⟨k+1,by simp,LT.out,HB.out,E.out⟩
         case measure=>simp[intOf];have:=LT.out;omega
        ·cases b7
         ·skip
          go_wp2
          go_roundw
          case rel=>exact⟨k+1,by simp,LT.out,HB.out,E.out⟩
          case measure=>simp[intOf];have:=LT.out;omega
         ·cases b8
          ·skip
           go_wp2
           go_roundw
           case rel=>exact⟨k+1,by simp,LT.out,HB.out,E.out⟩
           case measure=>simp[intOf];have:=LT.out;omega
          ·cases hq
    ·skip
     cases b3
     ·cases b4
      ·skip
       go_wp2
       go_roundw
       case rel=>exact⟨k+1,by simp,LT.out,HB.out,E.out⟩
       case measure=>simp[intOf];have:=LT.out;omega
      ·cases b5
       ·skip
        go_wp2
        go_roundw
        case rel=>exact⟨k+1,by simp,LT.out,HB.out,E.out⟩
        case measure=>simp[intOf];have:=LT.out;omega
       ·cases b6
        ·skip
         go_wp2
         go_roundw
         case rel=>exact⟨k+1,by simp,LT.out,HB.out,E.out⟩
         case measure=>simp[intOf];have:=LT.out;omega
        ·cases b7
         ·skip
          go_wp2
          go_roundw
          case rel=>exact⟨k+1,by simp,LT.out,HB.out,E.out⟩
          case measure=>simp[intOf];have:=LT.out;omega
         ·cases b8
          ·skip
           go_wp2
           go_roundw
           case rel=>exact⟨k+1,by simp,LT.out,HB.out,E.out⟩
           case measure=>simp[intOf];have:=LT.out;omega
          ·cases hq
     ·cases b5
      ·skip
       go_wp2
       go_roundw
       case rel=>exact⟨k+1,by simp,LT.out,HB.out,E.out⟩
       case measure=>simp[intOf];have:=LT.out;omega
      ·cases b6
       ·skip
        go_wp2
        go_roundw
        case rel=>exact⟨k+1,by simp,LT.out,HB.out,E.out⟩
        case measure=>simp[intOf];have:=LT.out;omega
       ·cases b7
        ·skip
         go_wp2
         go_roundw
         case rel=>exact⟨k+1,by simp,LT.out,HB.out,E.out⟩
         case measure=>simp[intOf];have:=LT.out;omega
        ·cases b8
         ·skip
          go_wp2
          go_roundw
          case rel=>exact⟨k+1,by simp,LT.out,HB.out,E.out⟩
          case measure=>simp[intOf];have:=LT.out;omega
         ·cases hq
  ·obtain rfl:k=s.length:=by have:=LK.out;omega
   have e:=AL.out
   rw[List.drop_length] at e
   have E:=Avp (show r=(decide (1<=s.length)&&decide (s.length<=64)) by rw[HR.out];unfold Dr;rw[e];rfl)
   clear e
   go_wp2
   all_goals go_ret
   all_goals exact Ay (by rw[E.out,Bool.eq_iff_iff];simp;omega) HB.out
def Arf (w:World) (n:Nat) (l:List (List UInt8)) (s:List UInt8) (i:Value) (wr:World):Prop:=∃ k:Nat,i = .int .i64 k∧k<=n∧Below w.heap.size w wr∧Mf l s=Mf (l.drop k) s
theorem Avk {A:Option Addr} {n c:Nat} {l:List (List UInt8)} {s:List UInt8} {w:World} (h:Sl encS w A n c l):Calls Tryz.prog 55 #[.slice A n c,Ac s] w (Ret w (IsB (Mf l s))):=by
 obtain⟨r,hr⟩:∃ r,r=Mf l s:=⟨_,rfl⟩
 rw[<-hr]
 have HR:=Avp hr
 have hn:=h.big
 have H:=Avp h
 clear hr h
 go_enter Tryz.func55,Tryz.ntmps55
 go_wp2
 go_loopw [5] (fun i wr=>Arf w n l s i wr) (fun i _=>n - (intOf i).toNat)
 case atStart=>exact⟨0,rfl,Nat.zero_le _,Below.refl _ _,by rw[List.drop_zero]⟩
 case round=>
  obtain⟨k,rfl,hk,hb,hal⟩:=hrel
  have HB:=Avp hb;have AL:=Avp hal;have LK:=Avp hk
  clear hb hal hk
  by_cases hlt:k<n
  ·obtain⟨b,o,m,hA,hbk,hm,hd,cs⟩:=(H.out.mono HB.out).at_ (i:=k) hlt
   have c0:wr.cell? ⟨b,o+k,none⟩=some (Ac m):=by have:=cs 0 _ rfl;simpa [encS] using this
   have hix:=(show(Instr.indexAt 67 (.slice A n c) (.int .i64 (k:Int))).run Tryz.prog wr = .ok (.pointer (some ⟨b,o+k,none⟩)) wr by rw[hA];simp[go_sem,hlt])
   have D1:=Avp hd;have LT:=Avp hlt
   clear hm hA hd cs hbk
   cases hl:decide (s=m) with
   | true=>
    have he:(m==s)=true:=by have:=of_decide_eq_true hl;subst this;simp
    have e:r=true:=by rw[HR.out,AL.out,D1.out];unfold Mf;rw[List.any_cons,hl];rfl
    subst e
    clear hl
    go_wp2
    go_ret
    exact Ay rfl HB.out
   | false=>
    have he:(m==s)=false:=by have:=of_decide_eq_false hl;simp;exact fun e=>this e.symm
    have HK:=Avp (show Mf (l.drop k) s=Mf (l.drop (k+1)) s by rw[D1.out];unfold Mf;rw[List.any_cons,hl];rfl)
    clear hl
    go_wp2
    go_roundw
    case rel=>exact⟨k+1,by simp,LT.out,HB.out,by rw[AL.out,HK.out]⟩
    case measure=>simp[intOf];have:=LT.out;omega
  ·obtain rfl:k=n:=by have:=LK.out;omega
   have e:r=false:=by rw[HR.out,AL.out,H.out.len,List.drop_length];rfl
   subst e
   go_wp2
   go_ret
   exact Ay rfl HB.out
def Mb (l:List (List UInt8)) (s:List UInt8) (k:Nat):Prop:=Lo l s=k+Lo (l.drop k) s
theorem Mb.zero (l:List (List UInt8)) (s:List UInt8):Mb l s 0:=by unfold Mb;simp
theorem Mb.next {l:List (List UInt8)} {s x:List UInt8} {k:Nat} (h:Mb l s k) (hd:l.drop k=x::l.drop (k+1)) (hx:x<s):Mb l s (k+1):=by
 unfold Mb at *
 rw[h,hd]
 have:Lo (x::l.drop (k+1)) s=Lo (l.drop (k+1)) s+1:=by unfold Lo;simp[List.takeWhile_cons,hx]
 omega
theorem Mb.stop {l:List (List UInt8)} {s x:List UInt8} {k:Nat} (h:Mb l s k) (hd:l.drop k=x::l.drop (k+1)) (hx:¬x<s):Lo l s=k:=by
 unfold Mb at h
 rw[h,hd]
 have:Lo (x::l.drop (k+1)) s=0:=by unfold Lo;simp[List.takeWhile_cons,hx]
 omega
theorem Mb.end_ {l:List (List UInt8)} {s:List UInt8} (h:Mb l s l.length):Lo l s=l.length:=by
 unfold Mb at h
 rw[h,List.drop_length];rfl
theorem Ahd (l:List (List UInt8)) (s:List UInt8):(Qq l s).length=l.length+1:=by
 unfold Qq
 have:Lo l s<=l.length:=by unfold Lo;exact List.Sublist.length_le (List.takeWhile_sublist _)
 simp;omega
theorem To:∀ (ks l:List (List UInt8)),(ks.foldl Qq l).length=l.length+ks.length
 | [],_=>rfl
 | s::t,l=>by rw[List.foldl_cons,To t,Ahd];simp;omega
theorem Aad {ks:List (List UInt8)} {k:Nat} {s:List UInt8} (h:ks[k]?=some s):Lf (ks.take (k+1))=Qq (Lf (ks.take k)) s:=by
 unfold Lf;rw[Cc h,List.foldl_append];rfl
def Afq (A:Option Addr) (c k:Nat):Option Addr:=if c=k then A else A.map (·.add k)
theorem Ut {w:World} {A:Option Addr} {n c k:Nat} (h:k<=c):(Instr.sliceAt 67 (.slice A n c) none (some (.int .i64 (k:Int))) none).run Tryz.prog w = .ok (.slice A k c) w:=by
 have h1:(0:Int)<=(k:Int):=by omega
 have h2:(k:Int)<=(c:Int):=by omega
 simp[go_sem,h1,h2]
theorem Wu {w:World} {A:Option Addr} {n c k:Nat} (h:k<=n) (hc:n<=c):(Instr.sliceAt 67 (.slice A n c) (some (.int .i64 (k:Int))) none none).run Tryz.prog w = .ok (.slice (Afq A c k) (n - k) (c - k)) w:=by
 have h1:(0:Int)<=(k:Int):=by omega
 have h2:(k:Int)<=(n:Int):=by omega
 have h3:(n:Int)<=(c:Int):=by omega
 unfold Afq
 simp[go_sem,h1,h2]
theorem Sl.takeS {w:World} {A:Option Addr} {n c k:Nat} {l:List (List UInt8)} (h:Sl encS w A n c l) (hk:k<=n):Sl encS w A k c (l.take k):=
 ⟨by rw[List.length_take,<-h.len];omega,Nat.le_trans hk h.cap,h.max,h.nil,fun i d hi=>h.cell i d (by rw[List.getElem?_take] at hi;split at hi;exact hi;cases hi)⟩
theorem Sl.dropS {w:World} {A:Option Addr} {n c k:Nat} {l:List (List UInt8)} (h:Sl encS w A n c l) (hk:k<=n):Sl encS w (Afq A c k) (n - k) (c - k) (l.drop k):=by
 refine⟨by rw[List.length_drop,<-h.len],by have:=h.cap;omega,by have:=h.max;omega,fun e=>?_,fun i d hi=>?_⟩
 ·by_cases hc:c=k
  ·omega
  ·unfold Afq at e;rw[if_neg hc] at e
   have:A=none:=by cases A with | none=>rfl | some a=>cases e
   have:=h.nil this;omega
 ·rw[List.getElem?_drop] at hi
  obtain⟨b,o,rfl,hb,h1⟩:=h.cell _ d hi
  have hl:k+i<l.length:=(List.getElem?_eq_some_iff.1 hi).1
  have hc:¬c=k:=by have:=h.cap;have:=h.len;omega
  unfold Afq;rw[if_neg hc]
  refine⟨b,o+k,by simp[Bz],hb,fun j u hj=>?_⟩
  have:=h1 j u hj
  rw[show o+k+i*encS.z+j=o+(k+i)*encS.z+j by simp[encS];omega]
  exact this
section
variable {ops:List Oper} {Fs:List VT} {w0:World} {a0:Act} {i:Nat} {d:Option Tmp} {ty:TypeId} {pos:String} {after:Array Edge} {g:Option (Nat×Bool)}
theorem Ob.sliceFromS {x y:Operand} {A:Option Addr} {n c k:Nat} (hw:Aa ops Fs w0 a0 i ⟨d,.slice 67 x (some y) none none,ty,pos,after,g⟩) (hx:Has ops Fs w0 a0 i ⟨d,.slice 67 x (some y) none none,ty,pos,after,g⟩ x (Is (.slice A n c))) (hy:Has ops Fs w0 a0 i ⟨d,.slice 67 x (some y) none none,ty,pos,after,g⟩ y (IsI (k:Int))) (h:k<=n) (hc:n<=c) :
  Ob Tryz.prog ops Fs w0 a0 i ⟨d,.slice 67 x (some y) none none,ty,pos,after,g⟩ (Is (.slice (Afq A c k) (n - k) (c - k))):=
 Ob.stay hw fun a w cx=>⟨_,by
  have h1:a.eval x = .slice A n c:=hx a w cx
  have h2:a.eval y = .int .i64 (k:Int):=hy a w cx
  have h3:=Wu (w:=w) (A:=A) h hc
  generalize a.eval=ρ at h1 h2
  simp[execOp,h1,h2,h3],rfl⟩
theorem Ob.mkS1 {x:Operand} {v:List UInt8} (hw:Aa ops Fs w0 a0 i ⟨d,.buildSlice 67 1 #[(0,x)],ty,pos,after,g⟩) (hx:Has ops Fs w0 a0 i ⟨d,.buildSlice 67 1 #[(0,x)],ty,pos,after,g⟩ x (Is (Ac v))) (_:True) :
  Ob Tryz.prog ops Fs w0 a0 i ⟨d,.buildSlice 67 1 #[(0,x)],ty,pos,after,g⟩ (fun w r=>∃ g,r = .slice (some ⟨g,0,none⟩) 1 1∧Ag encS 9 w w0.heap.size r [v]):=
 Ob.buildSlice hw fun a w cx=>by
  have e:a.eval x=Ac v:=hx a w cx
  generalize a.eval=ρ at e
  refine⟨.slice (some ⟨w.heap.size,0,none⟩) 1 1,w.alloc (.cells #[Ac v] 9),?_,(Below.refl _ _).alloc (Nat.le_refl _) _,_,rfl,(Ag.oneNew encS w v _ rfl _ (by decide)).low cx.le.size⟩
  simp[e,go_sem]
end
instance (B:Nat) (s:List UInt8):Grows (fun(w:World) (r:Value)=>∃ g,r = .slice (some ⟨g,0,none⟩) 1 1∧Ag encS 9 w B r [s]):=⟨fun hb ⟨g,e,h⟩=>⟨g,e,h.mono hb⟩⟩
def As5 (w:World) (l:List (List UInt8)) (v i:Value) (wr:World):Prop:=∃ k:Nat,i = .int .i64 k∧k<=l.length∧Below w.heap.size w wr∧Ag encS 9 wr w.heap.size v (Lf (l.take k))
def Aqz (w:World) (out:List (List UInt8)) (s:List UInt8) (j:Value) (wx:World):Prop:=∃ m:Nat,j = .int .i64 m∧m<=out.length∧Below w.heap.size w wx∧Mb out s m
theorem Th {w0 w:World} {b o:Nat} {s:List UInt8} (hb:Below w0.heap.size w0 w) (h0:w0.cell? ⟨b,o,none⟩=some (Ac s)):(Instr.loadAt 9 (.pointer (some ⟨b,o,none⟩))).run Tryz.prog w = .ok (Ac s) w:=Fd hb h0
theorem Aow {w:World} {A:Option Addr} {n c:Nat} {l:List (List UInt8)} (h:Sl encS w A n c l) (hs:l.length<=1000) :
  Calls Tryz.prog 56 #[.slice A n c] w (Ret w (Vk w.heap.size (Lf l))):=by
 have hn:=h.big
 have H:=Avp h;have HS:=Avp hs;have NL:=Avp h.len
 clear h hs
 go_enter Tryz.func56,Tryz.ntmps56
 go_wp2
 go_loopw [3,4] (fun v i wr=>As5 w l v i wr) (fun _ i _=>n - (intOf i).toNat)
 case atStart=>exact⟨0,rfl,Nat.zero_le _,Below.refl _ _,Ag.nil_ _ _ _ _⟩
 case round=>
  obtain⟨k,rfl,hk,hbr,hr⟩:=hrel
  have HR:=Avp hbr;have LK:=Avp hk
  clear hbr hk
  by_cases hlt:k<n
  ·obtain⟨b,o,s,hA,hbk,hm,hd,cs⟩:=(H.out.mono HR.out).at_ (i:=k) hlt
   have c0:wr.cell? ⟨b,o+k,none⟩=some (Ac s):=by have:=cs 0 _ rfl;simpa [encS] using this
   have HIX:=Avp (fun wr=>show(Instr.indexAt 67 (.slice A n c) (.int .i64 (k:Int))).run Tryz.prog wr = .ok (.pointer (some ⟨b,o+k,none⟩)) wr by rw[hA];simp[go_sem,hlt])
   have C0:=Avp c0
   have LT:=Avp (show k+1<=l.length by have:=NL.out;omega)
   have HT:=Avp (Aad hm)
   have hlen:=To (l.take k) []
   have HLN:=Avp (show(Lf (l.take k)).length<=1000 by unfold Lf;have:=HS.out;simp at hlen;omega)
   generalize Lf (l.take k)=out at *
   have R:=Avp hr
   obtain⟨A2,c2,rfl,hsl⟩:=hr.sl
   have SL:=Avp hsl
   have hob:(out.length:Int)<=9223372036854775807:=by have:=HLN.out;omega
   clear hm hA hd cs hbk hsl hlen hr c0
   go_wp2
   generalize hwo:wr=wo at *
   clear hwo
   go_loopw [5] (fun j wx=>Aqz wo out s j wx) (fun j _=>out.length - (intOf j).toNat)
   case atStart=>exact⟨0,rfl,Nat.zero_le _,Below.refl _ _,Mb.zero _ _⟩
   case round=>
    obtain⟨m,rfl,hm,hb2,hp⟩:=hrel
    have HB2:=Avp hb2;have LM:=Avp hm;have HP:=Avp hp
    clear hb2 hm hp
    by_cases hlt2:m<out.length
    ·obtain⟨b2,o2,x,hA2,hbk2,hm2,hd2,cs2⟩:=(SL.out.mono HB2.out).at_ (i:=m) hlt2
     have cx:wr.cell? ⟨b2,o2+m,none⟩=some (Ac x):=by have:=cs2 0 _ rfl;simpa [encS] using this
     have hix2:=(show ∀ wx,(Instr.indexAt 67 (.slice A2 out.length c2) (.int .i64 (m:Int))).run Tryz.prog wx = .ok (.pointer (some ⟨b2,o2+m,none⟩)) wx by intro wx;rw[hA2];simp[go_sem,hlt2])
     have hix1:=HIX.out
     have cs:=Ad HB2.out C0.out
     have D2:=Avp hd2;have LT2:=Avp hlt2
     clear hA2 hbk2 hm2 hd2 cs2
     by_cases hx:x<s
     ·have hbl:Op.bytesLess x s=true:=by rw[bytesLess_eq];exact decide_eq_true hx
      have HN:=Avp (HP.out.next D2.out hx)
      clear hx
      go_wp2
      go_quiet (fail)
      go_wp2
      go_roundw
      case rel=>exact⟨m+1,by simp,LT2.out,HB2.out.drewN' _,HN.out⟩
      case measure=>simp[intOf];have:=LT2.out;omega
     ·have hbl:Op.bytesLess x s=false:=by rw[bytesLess_eq];exact decide_eq_false hx
      have HI:=Avp (HP.out.stop D2.out hx)
      clear hx
      go_wp2
      go_quiet (fail)
      clear cs hix1 hix2 cx hbl
      replace HB2:=Avp (HB2.out.drewN' nq)
      generalize wr.drewN nq=wr at *
      have KM:=Avp (show m<=out.length by have:=LM.out;omega)
      have INS:=Avp (show out.take m++([s]++out.drop m)=Qq out s by unfold Qq;rw[HI.out])
      have SX:=Avp (SL.out.mono HB2.out)
      have cs:=Ad HB2.out C0.out
      go_wp2_with fail
      refine Bu 8 mixed (by kernel_rfl) (by kernel_rfl) ?_
      refine Al.step (Ob.move Aa.free Has.oldIs) ?_
      refine Al.step (Ob.move Aa.free Has.oldIs) ?_
      refine Al.step (Ob.indexV Aa.free (Has.new 0 1) (Has.new 1 0) (fun w1=>HIX.out w1)) ?_
      refine Al.step (Ob.loadV Aa.free (Has.new 2 0) (fun w1 hb1=>Th hb1 cs)) ?_
      refine Al.step (Ob.mkS1 Aa.free (Has.new 3 0) trivial) ?_
      refine Al.step (Ob.move Aa.free Has.oldIs) ?_
      refine Al.step (Ob.move Aa.free Has.oldIs) ?_
      refine Al.step (Ob.sliceFromS Aa.free (Has.new 5 1) (Has.new 6 0) KM.out SX.out.cap) ?_
      simp only[Al,Ao,List.map,Bq,List.reverse_cons,List.reverse_nil,List.nil_append,List.cons_append,List.take_succ_cons,List.take_zero,List.drop_succ_cons,List.drop_zero]
      intro wE hE
      iterate 4 (rintro _ rfl)
      rintro _ ⟨g4,rfl,o4⟩
      iterate 3 (rintro _ rfl)
      simp only[Act.put,List.setIfInBounds_toArray,List.set_cons_zero,List.set_cons_succ]
      have BE:=Avp hE
      have O4:=Avp (Ag.low o4 (B':=wr.heap.size) (by simp))
      clear hE o4 cs
      have hst:=fun w1=>Ut (w:=w1) (A:=A2) (n:=out.length) (Nat.le_trans KM.out SX.out.cap)
      go_wp2_with (first
       | (at_builtin;refine Aj (B:=wr.heap.size) (l:=[s]) (k:=out.drop m) Sw rfl rfl Tryz.underlying67 rfl rfl O4.out ((SX.out.mono BE.out).dropS KM.out) (by have:=HLN.out;simp;omega) BE.out.size ?_;intro v6 w6 o6 g6 hz;clear hz;obtain⟨A6,c6,rfl,s6⟩:=Ag.sl o6;obtain⟨K6,hK6⟩:∃ K,K=[s]++out.drop m:=⟨_,rfl⟩;rw[<-hK6] at s6 ⊢;have LK6:=Avp (show K6.length<=1001 by have:=HLN.out;rw[hK6];simp;omega);have EK6:=Avp hK6;have S6:=Avp s6;have B6:=Avp (BE.out.grown g6 BE.out.size (fun q hq=>(O4.out.own q hq).1));clear o6 g6 s6 hK6)
       | (at_builtin;refine Aj (B:=wr.heap.size) (l:=[]) (k:=out.take m) Sw rfl rfl Tryz.underlying67 rfl rfl (Ag.nil_ _ _ _ _) ((SX.out.mono B6.out).takeS KM.out) (by have:=HLN.out;simp;omega) B6.out.size ?_;intro v7 w7 o7 g7 hz;clear hz;have O7:=Avp (show Ag encS 9 w7 wr.heap.size v7 (out.take m) by simpa using o7);have B67:=Avp ((Below.refl w6.heap.size w6).grown g7 (Nat.le_refl _) (fun q hq=>nomatch hq));clear o7 g7)
       | (at_builtin;refine Aj (B:=wr.heap.size) (l:=out.take m) (k:=K6) Sw rfl rfl Tryz.underlying67 rfl rfl O7.out (S6.out.mono B67.out) (by have:=HLN.out;have:=LK6.out;simp;omega) (B6.out.le B67.out).size ?_;intro v8 w8 o8 g8 hz;clear hz;have O8:=Avp o8;have B8:=Avp ((B6.out.le B67.out).grown g8 (B6.out.le B67.out).size (fun q hq=>(O7.out.own q hq).1));clear o8 g8)
       | fail)
      go_roundw
      case rel=>exact⟨k+1,by simp,LT.out,HR.out.le (HB2.out.le B8.out),by rw[HT.out,<-INS.out,<-EK6.out];exact O8.out.low (HR.out.le HB2.out).size⟩
      case measure=>simp[intOf];have:=LT.out;omega
    ·have hmo:m=out.length:=by have:=LM.out;omega
     have HI:=Avp (show Lo out s=m by have:=HP.out;rw[hmo] at this ⊢;exact this.end_)
     clear hmo
     go_wp2
     go_quiet (fail)
     clear hlt2
     replace HB2:=Avp (HB2.out.drewN' nq)
     generalize wr.drewN nq=wr at *
     have KM:=Avp (show m<=out.length by have:=LM.out;omega)
     have INS:=Avp (show out.take m++([s]++out.drop m)=Qq out s by unfold Qq;rw[HI.out])
     have SX:=Avp (SL.out.mono HB2.out)
     have cs:=Ad HB2.out C0.out
     go_wp2_with fail
     refine Bu 8 mixed (by kernel_rfl) (by kernel_rfl) ?_
     refine Al.step (Ob.move Aa.free Has.oldIs) ?_
     refine Al.step (Ob.move Aa.free Has.oldIs) ?_
     refine Al.step (Ob.indexV Aa.free (Has.new 0 1) (Has.new 1 0) (fun w1=>HIX.out w1)) ?_
     refine Al.step (Ob.loadV Aa.free (Has.new 2 0) (fun w1 hb1=>Th hb1 cs)) ?_
     refine Al.step (Ob.mkS1 Aa.free (Has.new 3 0) trivial) ?_
     refine Al.step (Ob.move Aa.free Has.oldIs) ?_
     refine Al.step (Ob.move Aa.free Has.oldIs) ?_
     refine Al.step (Ob.sliceFromS Aa.free (Has.new 5 1) (Has.new 6 0) KM.out SX.out.cap) ?_
     simp only[Al,Ao,List.map,Bq,List.reverse_cons,List.reverse_nil,List.nil_append,List.cons_append,List.take_succ_cons,List.take_zero,List.drop_succ_cons,List.drop_zero]
     intro wE hE
     iterate 4 (rintro _ rfl)
     rintro _ ⟨g4,rfl,o4⟩
     iterate 3 (rintro _ rfl)
     simp only[Act.put,List.setIfInBounds_toArray,List.set_cons_zero,List.set_cons_succ]
     have BE:=Avp hE
     have O4:=Avp (Ag.low o4 (B':=wr.heap.size) (by simp))
     clear hE o4 cs
     have hst:=fun w1=>Ut (w:=w1) (A:=A2) (n:=out.length) (Nat.le_trans KM.out SX.out.cap)
     go_wp2_with (first
      | (at_builtin;refine Aj (B:=wr.heap.size) (l:=[s]) (k:=out.drop m) Sw rfl rfl Tryz.underlying67 rfl rfl O4.out ((SX.out.mono BE.out).dropS KM.out) (by have:=HLN.out;simp;omega) BE.out.size ?_;intro v6 w6 o6 g6 hz;clear hz;obtain⟨A6,c6,rfl,s6⟩:=Ag.sl o6;obtain⟨K6,hK6⟩:∃ K,K=[s]++out.drop m:=⟨_,rfl⟩;rw[<-hK6] at s6 ⊢;have LK6:=Avp (show K6.length<=1001 by have:=HLN.out;rw[hK6];simp;omega);have EK6:=Avp hK6;have S6:=Avp s6;have B6:=Avp (BE.out.grown g6 BE.out.size (fun q hq=>(O4.out.own q hq).1));clear o6 g6 s6 hK6)
      | (at_builtin;refine Aj (B:=wr.heap.size) (l:=[]) (k:=out.take m) Sw rfl rfl Tryz.underlying67 rfl rfl (Ag.nil_ _ _ _ _) ((SX.out.mono B6.out).takeS KM.out) (by have:=HLN.out;simp;omega) B6.out.size ?_;intro v7 w7 o7 g7 hz;clear hz;have O7:=Avp (show Ag encS 9 w7 wr.heap.size v7 (out.take m) by simpa using o7);have B67:=Avp ((Below.refl w6.heap.size w6).grown g7 (Nat.le_refl _) (fun q hq=>nomatch hq));clear o7 g7)
      | (at_builtin;refine Aj (B:=wr.heap.size) (l:=out.take m) (k:=K6) Sw rfl rfl Tryz.underlying67 rfl rfl O7.out (S6.out.mono B67.out) (by have:=HLN.out;have:=LK6.out;simp;omega) (B6.out.le B67.out).size ?_;intro v8 w8 o8 g8 hz;clear hz;have O8:=Avp o8;have B8:=Avp ((B6.out.le B67.out).grown g8 (B6.out.le B67.out).size (fun q hq=>(O7.out.own q hq).1));clear o8 g8)
      | fail)
     go_roundw
     case rel=>exact⟨k+1,by simp,LT.out,HR.out.le (HB2.out.le B8.out),by rw[HT.out,<-INS.out,<-EK6.out];exact O8.out.low (HR.out.le HB2.out).size⟩
     case measure=>simp[intOf];have:=LT.out;omega
  ·obtain rfl:k=n:=by have:=LK.out;have:=NL.out;omega
   have R2:=Avp hr
   clear hr
   go_wp2
   go_ret
   have r:=R2.out
   rw[NL.out,List.take_length] at r
   exact⟨_,rfl,HR.out,r⟩
theorem Ag0 {w:World} (c:Ce) (A:Option Addr) (m:Nat) (hk:c.key.length<=1000000) (ho:c.other.length<=1000000) :
  Calls Tryz.prog 30 #[Aq c A c.data.length m] w (Ret w (Vk w.heap.size (Cz c))):=by
 have F:=Avp (fun w1 (_:Below w.heap.size w w1)=>Va c A m w1)
 cases hf:Br c with
 | false=>
  have e:Cz c=[]:=by unfold Cz;rw[hf];rfl
  rw[e]
  rw[hf] at F
  clear hf e
  obtain⟨op,key,other,item,qty,data⟩:=c
  unfold Aq at *
  simp only at *
  generalize data.length=n at *
  have HKL:=Avp (And.intro hk ho)
  clear hk ho
  have B:=Avp (show Below w.heap.size w (w.alloc (.cells #[.int .i64 op,Ac key,Ac other,Ac item,.int .i64 qty,.slice A n m] 25)) by go_grown)
  have X:=Avp (Bx.new w #[.int .i64 op,Ac key,Ac other,Ac item,.int .i64 qty,.slice A n m] 25)
  have q0:=X.out.cell 0 rfl;have q1:=X.out.cell 1 rfl;have q2:=X.out.cell 2 rfl;have q3:=X.out.cell 3 rfl;have q4:=X.out.cell 4 rfl;have q5:=X.out.cell 5 rfl
  go_enter Tryz.func30,Tryz.ntmps30
  go_wp2_with fail
  refine(F.out _ B.out).mono ?_
  rintro _ w2 ⟨_,rfl,hb2,rfl⟩
  replace X:=Avp (X.out.mono hb2);replace B:=Avp (B.out.le hb2)
  clear hb2 q0 q1 q2 q3 q4 q5 F
  go_wp2
  go_ret
  exact⟨_,rfl,B.out,Ag.nil_ _ _ _ _⟩
 | true=>
  have e:Cz c=Fa (Ef [c.key,c.other]):=by unfold Cz;rw[hf];rfl
  rw[e]
  rw[hf] at F
  clear hf e
  obtain⟨op,key,other,item,qty,data⟩:=c
  unfold Aq at *
  simp only at *
  generalize data.length=n at *
  have HKL:=Avp (And.intro hk ho)
  clear hk ho
  have B:=Avp (show Below w.heap.size w (w.alloc (.cells #[.int .i64 op,Ac key,Ac other,Ac item,.int .i64 qty,.slice A n m] 25)) by go_grown)
  have X:=Avp (Bx.new w #[.int .i64 op,Ac key,Ac other,Ac item,.int .i64 qty,.slice A n m] 25)
  have q0:=X.out.cell 0 rfl;have q1:=X.out.cell 1 rfl;have q2:=X.out.cell 2 rfl;have q3:=X.out.cell 3 rfl;have q4:=X.out.cell 4 rfl;have q5:=X.out.cell 5 rfl
  go_enter Tryz.func30,Tryz.ntmps30
  go_wp2_with fail
  refine(F.out _ B.out).mono ?_
  rintro _ w2 ⟨_,rfl,hb2,rfl⟩
  replace X:=Avp (X.out.mono hb2);replace B:=Avp (B.out.le hb2)
  clear hb2 q0 q1 q2 q3 q4 q5 F
  have q1:=X.out.cell 1 rfl;have q2:=X.out.cell 2 rfl
  have D:=Avp (Sl.new encS w2 [key,other] (by simp) #[Ac key,Ac other] rfl 9)
  have B3:=Avp (B.out.le (show Below w2.heap.size w2 (w2.alloc (.cells #[Ac key,Ac other] 9)) by go_grown))
  go_wp2_with fail
  obtain⟨G,hG⟩:∃ G,G=w2.heap.size:=⟨_,rfl⟩
  rw[<-hG] at D ⊢
  clear hG q1 q2 X B
  generalize w2.alloc (.cells #[Ac key,Ac other] 9)=w3 at *
  go_loopw [3,15] (fun v i wr=>Oy w3 w3.heap.size [key,other] v i wr) (fun _ i _=>2 - (intOf i).toNat)
  case atStart=>exact⟨0,rfl,Nat.zero_le _,Below.refl _ _,Ag.nil_ _ _ _ _⟩
  case round=>
   obtain⟨k,rfl,hk,hbr,hr⟩:=hrel
   have HR:=Avp hbr;have R:=Avp hr;have LK:=Avp hk
   clear hbr hr hk
   by_cases hlt:k<2
   ·obtain⟨b,o,s,hA,hbk,hm,hd,cs⟩:=(D.out.mono HR.out).at_ (i:=k) hlt
    cases hA
    have c0:wr.cell? ⟨G,k,none⟩=some (Ac s):=by have:=cs 0 _ rfl;simpa [encS] using this
    have hsl:s.length<=1000000:=by
     have h1:=HKL.out.1;have h2:=HKL.out.2
     have hk:k=0∨k=1:=by omega
     rcases hk with rfl | rfl
     ·simp at hm;subst hm;exact h1
     ·simp at hm;subst hm;exact h2
    have K1:=Avp (fun w=>Ave s w hsl)
    have HT:=Avp (Rf hm)
    have LT:=Avp hlt
    have hlen:=Io ([key,other].take k)
    have HLN:=Avp (show(Ef ([key,other].take k)).length<=2 by simp at hlen;omega)
    obtain⟨A',c',rfl,hs⟩:=R.out.sl
    have C1:=Avp (fun w2 (hb:Below wr.heap.size wr w2)=>Avk (s:=s) (hs.mono hb))
    clear hm hd cs hbk hsl hlen hs
    cases hkk:Dr s with
    | false=>
     rw[hkk] at K1
     have HE:=Avp (HT.out.trans (Acf hkk))
     clear hkk C1
     go_wp2_with fail
     refine(K1.out _).mono ?_
     rintro _ w4 ⟨_,rfl,hb4,rfl⟩
     have B4:=Avp hb4
     clear hb4
     go_wp2
     go_roundw
     case rel=>exact Oy.le HR.out R.out B4.out LT.out HE.out
     case measure=>simp[intOf];have:=LT.out;omega
    | true=>
     rw[hkk] at K1
     cases hh:Mf (Ef ([key,other].take k)) s with
     | true=>
      rw[hh] at C1
      have HE:=Avp (HT.out.trans (Zo hh))
      clear hkk hh
      go_wp2_with fail
      refine(K1.out _).mono ?_
      rintro _ w4 ⟨_,rfl,hb4,rfl⟩
      have B4:=Avp hb4
      clear hb4
      go_wp2_with fail
      refine(C1.out _ B4.out).mono ?_
      rintro _ w5 ⟨_,rfl,hb5,rfl⟩
      replace B4:=Avp (B4.out.le hb5)
      clear hb5
      go_wp2
      go_roundw
      case rel=>exact Oy.le HR.out R.out B4.out LT.out HE.out
      case measure=>simp[intOf];have:=LT.out;omega
     | false=>
      rw[hh] at C1
      have HE:=Avp (HT.out.trans (Yv hkk hh))
      clear hkk hh
      go_wp2_with fail
      refine(K1.out _).mono ?_
      rintro _ w4 ⟨_,rfl,hb4,rfl⟩
      have B4:=Avp hb4
      clear hb4
      go_wp2_with fail
      refine(C1.out _ B4.out).mono ?_
      rintro _ w5 ⟨_,rfl,hb5,rfl⟩
      replace B4:=Avp (B4.out.le hb5)
      clear hb5
      have D1:=Avp (Atq w5 s 9)
      have B5:=Avp (B4.out.le (show Below w5.heap.size w5 (w5.alloc (.cells #[Ac s] 9)) by go_grown))
      go_wp2_with (first
       | (at_builtin;refine Aj (B:=w3.heap.size) (l:=Ef ([key,other].take k)) (k:=[s]) Sw rfl rfl Tryz.underlying67 rfl rfl (R.out.mono B5.out) D1.out (by have:=HLN.out;simp;omega) (by have:=HR.out.size;have:=B5.out.size;omega) ?_;intro v6 w6 o6 g6 _;have O6:=Avp o6;have G6:=Avp g6;clear o6 g6)
       | fail)
      go_roundw
      case rel=>exact⟨k+1,by simp,LT.out,(HR.out.le B5.out).grown G6.out (by have:=HR.out.size;have:=B5.out.size;omega) (fun q hq=>(R.out.own q hq).1),by rw[HE.out];exact O6.out⟩
      case measure=>simp[intOf];have:=LT.out;omega
   ·obtain rfl:k=2:=by have:=LK.out;simp at this;omega
    have R2:=Avp (show Ag encS 9 wr w3.heap.size _ (Ef [key,other]) from R.out)
    have HLN:=Avp (Io [key,other])
    obtain⟨A9,c9,rfl,hs9⟩:=R2.out.sl
    have X9:=Avp (Aow hs9 (by have:=HLN.out;simp at this;omega))
    rw[Akh _ (HLN.out)] at X9
    clear hs9
    go_wp2_with fail
    refine X9.out.mono ?_
    rintro _ w4 ⟨_,rfl,hb4,hs4⟩
    have B4:=Avp hb4;have S4:=Avp hs4
    clear hb4 hs4 X9
    go_wp2
    go_ret
    exact⟨_,rfl,B3.out.le (HR.out.le B4.out),S4.out.low (B3.out.le HR.out).size⟩
def Ans (w:World) (q:List UInt8) (s i:Value) (wr:World):Prop:=∃ k a:Nat,i = .int .i64 k∧k<=q.length∧s = .int .u64 a∧a<4294967296∧Below w.heap.size w wr∧Lq q=(q.drop k).foldl Q6 a
theorem Arq (s:List UInt8) (w:World) (hs:s.length<=1000000):Calls Tryz.prog 141 #[Ac s] w (Ret w (IsK .u32 (Lq s))):=by
 have hbig:(s.length:Int)<=9223372036854775807:=by omega
 have HS:=Avp hs
 clear hs
 go_enter Tryz.func141,Tryz.ntmps141
 go_wp2
 go_loopw [3,4] (fun n i wr=>Ans w s n i wr) (fun _ i _=>s.length - (intOf i).toNat)
 case atStart=>exact⟨0,2166136261,rfl,Nat.zero_le _,rfl,by decide,Below.refl _ _,by simp[Lq]⟩
 case round=>
  obtain⟨k,a,rfl,hk,rfl,ha,hb,he⟩:=hrel
  have HB:=Avp hb;have HE:=Avp he;have LK:=Avp hk;have LA:=Avp ha
  clear hb he hk ha
  by_cases hlt:k<s.length
  ·obtain⟨c,hc⟩:∃ c,s[k]?=some c:=⟨_,List.getElem?_eq_getElem hlt⟩
   have hix:=Ag1 hc wr
   have D1:=Avp (show s.drop k=c::s.drop (k+1) by rw[List.drop_eq_getElem_cons hlt];congr 1;exact(List.getElem?_eq_some_iff.1 hc).2)
   have LT:=Avp hlt
   have hcl:=c.toNat_lt
   have hw:IntKind.u64.wrap (c.toNat:Int)=(c.toNat:Int):=wrap_u64 (by omega)
   have hxr:=Anz (show a<18446744073709551616 by have:=LA.out;omega) (show c.toNat<18446744073709551616 by omega)
   have hxl:a ^^^ c.toNat<4294967296:=Nat.xor_lt_two_pow (n:=32) LA.out (by omega)
   have hwm:IntKind.u64.wrap (((a ^^^ c.toNat:Nat):Int)*16777619)=((a ^^^ c.toNat:Nat):Int)*16777619:=by
    have:=wrap_u64 (a:=(a ^^^ c.toNat)*16777619) (by omega)
    rw[show(((a ^^^ c.toNat)*16777619:Nat):Int)=((a ^^^ c.toNat:Nat):Int)*16777619 by simp] at this
    exact this
   have FN:=Avp (show((a ^^^ c.toNat:Nat):Int)*16777619 % 4294967296=((Q6 a c:Nat):Int) by unfold Q6;omega)
   clear hc hcl hxl
   go_wp2
   go_roundw
   case rel=>exact⟨k+1,Q6 a c,by simp,LT.out,by rw[FN.out],Ve _ _,HB.out,by rw[HE.out,D1.out];rfl⟩
   case measure=>simp[intOf];have:=LT.out;omega
  ·obtain hkn:k=s.length:=by have:=LK.out;omega
   have e:=HE.out
   rw[hkn,List.drop_length] at e
   have E:=Avp (show Lq s=a from e)
   have hw:IntKind.u32.wrap (a:Int)=(a:Int):=M3 LA.out
   clear hkn e
   go_wp2
   go_ret
   exact Aju (by rw[E.out]) HB.out
theorem Al2 (s:List UInt8) (k:Nat) (w:World) (hs:s.length<=1000000) (h1:1<=k) (h2:k<=1024):Calls Tryz.prog 85 #[Ac s,.int .i64 (k:Int)] w (Ret w (IsI (Bs s k:Nat))):=by
 have F:=Avp (Arq s w hs)
 have hfl:=Aq4 s
 have hw:IntKind.i64.wrap (Lq s:Int)=(Lq s:Int):=by simp[IntKind.wrap,IntKind.bits,IntKind.signed];omega
 have hk0:¬(k:Int)=0:=by omega
 have hr:(Lq s:Int).tmod (k:Int)=(Bs s k:Nat):=by unfold Bs;rw[Int.tmod_eq_emod_of_nonneg (by omega)];omega
 have HR:=Avp hr
 clear hs hfl
 go_enter Tryz.func85,Tryz.ntmps85
 go_wp2_with fail
 refine F.out.mono ?_
 rintro _ w1 ⟨_,rfl,hb1,rfl⟩
 have HB:=Avp hb1
 clear hb1 F
 go_wp2
 go_ret
 exact⟨_,rfl,HB.out,rfl⟩
def Ahe (B:Nat) (l:List Int) (w:World) (v:Value):Prop:=∃ g,v = .slice (some ⟨g,0,none⟩) l.length l.length∧Ag encI 3 w B (.slice (some ⟨g,0,none⟩) l.length l.length) l
theorem Aor {w:World} {A:Option Addr} {n c:Nat} {ks:List (List UInt8)} {k:Nat} (h:Sl encS w A n c ks) (hlm:ks.length<=1000) (hl:∀ s∈ks,s.length<=1000000) (h1:1<=k) (h2:k<=1024) :
  Calls Tryz.prog 53 #[.slice A n c,.int .i64 (k:Int)] w (Ret w (Ahe w.heap.size (Ci ks k))):=by
 obtain⟨i,hi,hz,hsz,hby⟩:=info_parts (P:=Tryz.prog) (show(Tryz.prog.info? 3).map (fun i=>(i.zero,i.size,i.bytes))=some (some (.int .i64 0),1,8) by kernel_rfl)
 have HI:=Avp hi;have HZ:=Avp hz;have HS:=Avp hsz;have HY:=Avp hby
 have hn:=h.big
 have hnl:=h.len
 have H:=Avp h;have HL:=Avp hl;have K1:=Avp h1;have K2:=Avp h2;have NL:=Avp hnl;have LMX:=Avp hlm
 clear h hl hlm hi hz hsz hby hnl
 go_enter Tryz.func53,Tryz.ntmps53
 go_wp2_with (first
  | (at_make;refine wpList_make_full w rfl _ _ 52 rfl w.heap.size 3 i _ 1 Tryz.underlying52 HI.out HZ.out HS.out .i64 .i64 k k k rfl rfl rfl rfl (by rw[HY.out];have:=K2.out;omega) (by have:=K2.out;unfold maxLen;omega) (Nat.le_refl _) ?_;intro w6 ho hg;have HO:=Avp ho;have HG:=Avp hg;clear ho hg)
  | fail)
 obtain⟨r,hr⟩:∃ r,r=w.heap.size:=⟨_,rfl⟩
 rw[<-hr] at HO ⊢
 have HO2:=Avp (show Ag encI 3 w6 w.heap.size (.slice (some ⟨r,0,none⟩) k k) (List.replicate k 0) by
  have:=HO.out
  rw[Me] at this
  unfold Ag
  rw[List.length_replicate,<-hr]
  exact this)
 have RB:=Avp (show w.heap.size<=r by rw[hr];exact Nat.le_refl _)
 have B6:=Avp (show Below w.heap.size w w6 from(Below.refl _ _).grown HG.out (Nat.le_refl _) (fun q hq=>nomatch hq))
 clear HO HG hr
 go_loopw [6] (fun i wr=>Aps w w.heap.size r k ks i wr) (fun i _=>n - (intOf i).toNat)
 case atStart=>exact⟨0,rfl,Nat.zero_le _,B6.out,HO2.out⟩
 case round=>
  obtain⟨j,rfl,hj,hbr,hr⟩:=hrel
  have HR:=Avp hbr;have R:=Avp hr;have LJ:=Avp hj
  clear hbr hr hj
  by_cases hlt:j<n
  ·obtain⟨b,o,s,hA,hbk,hm,hd,cs⟩:=(H.out.mono HR.out).at_ (i:=j) hlt
   have c0:wr.cell? ⟨b,o+j,none⟩=some (Ac s):=by have:=cs 0 _ rfl;simpa [encS] using this
   have hix:=(show(Instr.indexAt 67 (.slice A n c) (.int .i64 (j:Int))).run Tryz.prog wr = .ok (.pointer (some ⟨b,o+j,none⟩)) wr by rw[hA];simp[go_sem,hlt])
   have ST:=Avp (fun w2 (_:Below wr.heap.size wr w2)=>Al2 s k w2 (HL.out s (List.mem_of_getElem? hm)) K1.out K2.out)
   have LT:=Avp hlt
   have HT:=Avp (Om (k:=k) hm)
   have hsl:Bs s k<k:=Nat.mod_lt _ K1.out
   have hlen:=Fz (ks.take j) k
   obtain⟨x,hx⟩:∃ x,(Ci (ks.take j) k)[Bs s k]?=some x:=⟨_,List.getElem?_eq_getElem (by rw[hlen];exact hsl)⟩
   have hxb:=Ti (ks.take j) k x (List.mem_of_getElem? hx)
   have hxk:x<=1000:=by
    have h9:(ks.take j).length<=ks.length:=by rw[List.length_take];omega
    have:=LMX.out
    omega
   have hx0:=hxb.1
   have SLT:=Avp hsl;have HX:=Avp hx;have HLN:=Avp hlen
   clear hm hA hd cs hxb hx hlen
   go_wp2_with fail
   refine(ST.out _ (by go_grown)).mono ?_
   rintro _ w4 ⟨_,rfl,hb4,rfl⟩
   have B4:=Avp hb4
   have R4:=Avp (R.out.mono hb4)
   clear hb4 c0 hix ST
   have cst:w4.cell? ⟨r,Bs s k,none⟩=some (.int .i64 x):=by
    have:=World.ownsRow.cells R4.out rfl _ _ (Enc.all_get (e:=encI) _ _ _ HX.out 0 (.int .i64 x) rfl)
    rw[Bz] at this
    simpa [encI] using this
   have SE:=Avp (R4.out.setEl (k:=Bs s k) (by rw[HLN.out];exact SLT.out) (x+1))
   have HA:=Avp (show Ij k (Ci (ks.take j) k) s=(Ci (ks.take j) k).set (Bs s k) (x+1) by unfold Ij;rw[List.getD_eq_getElem?_getD,HX.out];rfl)
   have fr:w4.frozen? ⟨r,Bs s k,none⟩=false:=Ag.frozen R4.out _
   generalize Bs s k=t at *
   go_wp2
   go_roundw
   case rel=>exact⟨j+1,by simp,by have:=NL.out;have:=LT.out;omega,Ae (HR.out.le B4.out) ((by simpa [World.setCells,encI] using SE.out.2:Upd r w4 _).below RB.out),by rw[HT.out,HA.out];simpa [World.setCells,encI] using SE.out.1⟩
   case measure=>simp[intOf];have:=LT.out;omega
  ·obtain rfl:j=n:=by have:=LJ.out;have:=NL.out;omega
   have hlen:=Fz ks k
   have R2:=Avp (show Ag encI 3 wr w.heap.size (.slice (some ⟨r,0,none⟩) (Ci ks k).length (Ci ks k).length) (Ci ks k) by
    have:=R.out
    rw[NL.out,List.take_length] at this
    rw[hlen];exact this)
   have HLN:=Avp hlen
   clear hlen
   go_wp2
   go_ret
   exact⟨_,rfl,HR.out,r,by rw[HLN.out];rfl,R2.out⟩
theorem Ab1 {w:World} {A:Option Addr} {n c:Nat} {ks:List (List UInt8)} {k:Nat} (h:Sl encS w A n c ks) (hlm:ks.length<=1000) (hl:∀ s∈ks,s.length<=1000000) (h1:1<=k) (h2:k<=1024) :
  Calls Tryz.prog 29 #[.slice A n c,.int .i64 (k:Int)] w (Ret w (J8 (Jn ks k))):=by
 have S:=Avp (Aor h hlm hl h1 h2)
 have K2:=Avp h2
 have hlen:=Fz ks k
 unfold Jn
 generalize Ci ks k=l at *
 have HLN:=Avp hlen
 clear h hlm hl h1 h2 hlen
 go_enter Tryz.func29,Tryz.ntmps29
 go_wp2_with fail
 refine S.out.mono ?_
 rintro _ w1 ⟨_,rfl,hb1,g,rfl,ho⟩
 have B1:=Avp hb1;have O1:=Avp ho
 obtain⟨A',c',hA',hs⟩:=ho.sl
 cases hA'
 have H:=Avp hs
 have hbig:(l.length:Int)<=9223372036854775807:=by have:=HLN.out;have:=K2.out;omega
 clear hb1 ho S hs
 go_wp2
 go_loopw [5,7] (fun v i wr=>Api w1 l l.length v i wr) (fun _ i _=>l.length - (intOf i).toNat)
 case atStart=>exact⟨0,rfl,Nat.zero_le _,Below.refl _ _,Ag.nil_ _ _ _ _⟩
 case round=>
  obtain⟨j,rfl,hj,hbr,hr⟩:=hrel
  have HR:=Avp hbr;have R:=Avp hr;have LJ:=Avp hj
  clear hbr hr hj
  by_cases hlt:j<l.length
  ·obtain⟨b,o,x,hA,hbk,hm,hd,c0⟩:=(H.out.mono HR.out).int hlt
   cases hA
   have c0':wr.cell? ⟨g,j,none⟩=some (.int .i64 x):=by simpa using c0
   have LT:=Avp hlt
   have hg:l.getD j 0=x:=by rw[List.getD_eq_getElem?_getD,hm];rfl
   have HLE:=Avp (Acs l j)
   clear hm hd c0 hbk
   by_cases hx:0<x
   ·have hdx:decide ((0:Int)<x)=true:=decide_eq_true hx
    have HP:=Avp (Gk (l:=l) (j:=j) (by rw[hg];exact hx))
    have D1:=Avp (Fl wr (j:Int) 3)
    have B5:=Avp (show Below wr.heap.size wr (wr.alloc (.cells #[.int .i64 (j:Int)] 3)) by go_grown)
    clear hg
    go_wp2_with (first
     | (at_builtin;refine Aj (B:=w1.heap.size) (l:=Hm l j) (k:=[(j:Int)]) Ati rfl rfl Tryz.underlying52 rfl rfl (R.out.mono B5.out) D1.out (by have:=HLE.out;have:=HLN.out;have:=K2.out;have:=LT.out;simp;omega) (by have:=HR.out.size;have:=B5.out.size;omega) ?_;intro v6 w6 o6 g6 _;have O6:=Avp o6;have G6:=Avp g6;clear o6 g6)
     | fail)
    go_roundw
    case rel=>exact⟨j+1,by simp,LT.out,(HR.out.le B5.out).grown G6.out (by have:=HR.out.size;have:=B5.out.size;omega) (fun q hq=>(R.out.own q hq).1),by rw[HP.out];exact O6.out⟩
    case measure=>simp[intOf];have:=LT.out;omega
   ·have hdx:decide ((0:Int)<x)=false:=decide_eq_false hx
    have HP:=Avp (Hz (l:=l) (j:=j) (by rw[hg];exact hx))
    clear hg
    go_wp2
    go_roundw
    case rel=>exact⟨j+1,by simp,LT.out,HR.out,by rw[HP.out];exact R.out⟩
    case measure=>simp[intOf];have:=LT.out;omega
  ·obtain hjk:j=l.length:=by have:=LJ.out;omega
   have R2:=Avp (show Ag encI 3 wr w1.heap.size _ (Hm l k) by have:=R.out;rw[hjk,HLN.out] at this;exact this)
   obtain⟨A2,c2,rfl,hs2⟩:=R2.out.sl
   have S2:=Avp hs2
   have BR:=Avp (B1.out.le HR.out)
   clear hs2 hjk
   go_wp2
   go_ret
   exact⟨_,rfl,BR.out,A2,_,_,rfl,S2.out⟩
end Go.Proofs.YthnbhjpahlceeaaGreatDoor
