/-
  The rules for the single operations, for the walk of XM.
-/
import Derived.Test.YthnbhjpahlceeaaGreatDoorTA
import Derived.Laws.OwnMore
import Derived.Maps.AppendAt
import Derived.Lib.AppendStr
import Derived.Lib.AppendZerosOnto
import Derived.Laws.BytesArg
import Derived.Deep.MidRow
import Derived.Laws.MakeOwn
import Derived.Lib.MinMax
set_option maxRecDepth 100000
set_option maxHeartbeats 8000000
set_option linter.unusedSectionVars false
set_option linter.unusedVariables false
set_option linter.unusedSimpArgs false
set_option maxRecDepth 100000
set_option maxHeartbeats 8000000
namespace Go.Proofs.YthnbhjpahlceeaaGreatDoor
open Go.RowKit
section
variable {P:Program} {ops:List Oper} {Fs:List VT} {w0:World} {a0:Act} {i:Nat} {o:Oper}
def Has (ops:List Oper) (Fs:List VT) (w0:World) (a0:Act) (i:Nat) (o:Oper) (x:Operand) (G:VT):Prop:=∀ a w,Cx ops Fs w0 a0 i o a w->G w (a.eval x)
def Aa (ops:List Oper) (Fs:List VT) (w0:World) (a0:Act) (i:Nat) (o:Oper):Prop:=∀ a w,Cx ops Fs w0 a0 i o a w->Region.wanted o (yielded ops.toArray a.tmps)=true
theorem Has.cst (v:Value):Has ops Fs w0 a0 i o (.const v) (Is v):=fun _ _ _=>rfl
theorem Has.old {t:Tmp} {G:VT} (v:Value) (hn:(Ao ops).contains (some t)=false) (hv:a0.tmps.getD t undef=v) (hG:∀ w,Below w0.heap.size w0 w->G w v):Has ops Fs w0 a0 i o (.tmp t) G:=fun a w cx=>by
 have:a.eval (.tmp t)=v:=(cx.old t (by simpa using hn)).trans hv
 rw[this];exact hG w cx.le
theorem Acr {a:Act} {t:Tmp} {v:Value} (h:a.tmps.toList[t]?=some v):a.tmps.getD t undef=v:=by rw[Array.getD_eq_getD_getElem?,<-Array.getElem?_toList,h];rfl
theorem Has.oldIs {t:Tmp} {v:Value} (hn:(Ao ops).contains (some t)=false:=by kernel_rfl) (hv:a0.tmps.toList[t]?=some v:=by exact rfl):Has ops Fs w0 a0 i o (.tmp t) (Is v):=Has.old v hn (Acr hv) fun _ _=>rfl
theorem Has.late {t:Tmp} {v:Value} (j:Nat) {oj:Oper} (ho:ops[j]?=some oj:=by exact rfl) (he:Bl oj i=true:=by exact rfl) (hd:oj.dst=some t:=by exact rfl) (hv:a0.tmps.toList[t]?=some v:=by exact rfl):Has ops Fs w0 a0 i o (.tmp t) (Is v):=fun _ _ cx=>(cx.late j oj t ho he hd).trans (Acr hv)
def Uh (ops:List Oper) (j:Nat):Option Tmp:=(ops[j]?).bind (·.dst)
theorem Aep {RF:List VT} {j k:Nat} {G:VT} (hl:RF.length=j+k+1) (hF:RF[k]?=some G):RF.reverse[j]?=some G:=by
 rw[List.getElem?_reverse (by omega),<-hF];congr 1;omega
theorem I7 {j:Nat} {t:Tmp} (h:Uh ops j=some t):∃ oj,ops[j]?=some oj∧oj.dst=some t:=by
 unfold Uh at h
 cases ho:ops[j]? with
 | none=>rw[ho] at h;cases h
 | some oj=>rw[ho] at h;exact⟨oj,rfl,h⟩
theorem Has.new {t:Tmp} {G:VT} {RF:List VT} (j k:Nat) (hF:RF[k]?=some G:=by exact rfl) (hl:RF.length=j+k+1:=by kernel_rfl) (hd:Uh ops j=some t:=by kernel_rfl) (he:Bl o j=true:=by kernel_rfl):Has ops RF.reverse w0 a0 i o (.tmp t) G:=fun _ _ cx=>by
 obtain⟨oj,h1,h2⟩:=I7 hd
 exact cx.new j oj t G he h1 h2 (Aep hl hF)
theorem Aa.free (h:o.guard=none:=by exact rfl):Aa ops Fs w0 a0 i o:=fun _ _ _=>by simp[Region.wanted,h]
theorem T2 {j:Nat} {want b:Bool} {oj:Oper} {t:Tmp} {a:Act} {w:World} (hg:o.guard=some (j,want)) (ho:ops[j]?=some oj) (hd:oj.dst=some t) (hv:IsB b w (a.tmps.getD t undef)):Region.wanted o (yielded ops.toArray a.tmps)=(b==want):=by
 have e:a.tmps[t]?=some (.bool b):=by
  have hv:a.tmps.getD t undef = .bool b:=hv
  rw[Array.getD_eq_getD_getElem?] at hv
  cases h:a.tmps[t]? with
  | none=>rw[h] at hv;simp at hv;cases hv
  | some u=>rw[h] at hv;simp at hv;rw[hv]
 simp[Region.wanted,hg,yielded,ho,hd,e]
theorem Aa.on {RF:List VT} (j k:Nat) {want:Bool} (hg:o.guard=some (j,want):=by exact rfl) (hF:RF[k]?=some (IsB want):=by exact rfl) (hl:RF.length=j+k+1:=by kernel_rfl) (hd:(Uh ops j).isSome=true:=by kernel_rfl) (he:Bl o j=true:=by kernel_rfl):Aa ops RF.reverse w0 a0 i o:=fun a w cx=>by
 obtain⟨t,hd⟩:=Option.isSome_iff_exists.1 hd
 obtain⟨oj,h1,h2⟩:=I7 hd
 rw[T2 hg h1 h2 (cx.new j oj t _ he h1 h2 (Aep hl hF))];simp
theorem Ob.off {RF:List VT} (j k:Nat) {want b:Bool} (hg:o.guard=some (j,want):=by exact rfl) (hF:RF[k]?=some (IsB b):=by exact rfl) (hl:RF.length=j+k+1:=by kernel_rfl) (hd:(Uh ops j).isSome=true:=by kernel_rfl) (he:Bl o j=true:=by kernel_rfl) (hne:(b==want)=false:=by exact rfl):Ob P ops RF.reverse w0 a0 i o (Is undef):=fun a w cx=>by
 obtain⟨t,hd⟩:=Option.isSome_iff_exists.1 hd
 obtain⟨oj,h1,h2⟩:=I7 hd
 rw[T2 hg h1 h2 (cx.new j oj t _ he h1 h2 (Aep hl hF)),hne];exact rfl
theorem Ob.offU {RF:List VT} (j k:Nat) {want:Bool} (hg:o.guard=some (j,want):=by exact rfl) (hF:RF[k]?=some (Is undef):=by exact rfl) (hl:RF.length=j+k+1:=by kernel_rfl) (hd:(Uh ops j).isSome=true:=by kernel_rfl) (he:Bl o j=true:=by kernel_rfl):Ob P ops RF.reverse w0 a0 i o (Is undef):=fun a w cx=>by
 obtain⟨t,hd⟩:=Option.isSome_iff_exists.1 hd
 obtain⟨oj,ho,h2⟩:=I7 hd
 have hv:a.tmps.getD t undef=undef:=cx.new j oj t _ he ho h2 (Aep hl hF)
 have:Region.wanted o (yielded ops.toArray a.tmps)=false:=by
  cases h:a.tmps[t]? with
  | none=>simp[Region.wanted,hg,yielded,ho,h2,h]
  | some u=>
   rw[Array.getD_eq_getD_getElem?,h] at hv
   simp at hv
   subst hv
   simp[Region.wanted,hg,yielded,ho,h2,h,undef]
 rw[this];exact rfl
theorem Ob.any {F:VT} (hw:Aa ops Fs w0 a0 i o) (h:∀ a w,Cx ops Fs w0 a0 i o a w->∃ r w',(execOp a.eval o).run P w = .ok (.value r) w'∧Below w.heap.size w w'∧F w' r):Ob P ops Fs w0 a0 i o F:=fun a w cx=>by
 rw[if_pos (hw a w cx)]
 obtain⟨r,w',hr,hb,hF⟩:=h a w cx
 unfold Oper.wp
 rw[hr]
 exact⟨r,rfl,hb,hF⟩
theorem Ob.stay {F:VT} (hw:Aa ops Fs w0 a0 i o) (h:∀ a w,Cx ops Fs w0 a0 i o a w->∃ r,(execOp a.eval o).run P w = .ok (.value r) w∧F w r):Ob P ops Fs w0 a0 i o F:=
 Ob.any hw fun a w cx=>let ⟨r,h1,h2⟩:=h a w cx;⟨r,w,h1,Below.refl _ _,h2⟩
variable {d:Option Tmp} {ty:TypeId} {pos:String} {after:Array Edge} {g:Option (Nat×Bool)}
theorem Ob.move {x:Operand} {F:VT} (hw:Aa ops Fs w0 a0 i ⟨d,.move x,ty,pos,after,g⟩) (hx:Has ops Fs w0 a0 i ⟨d,.move x,ty,pos,after,g⟩ x F):Ob P ops Fs w0 a0 i ⟨d,.move x,ty,pos,after,g⟩ F:=
 Ob.stay hw fun a w cx=>⟨_,by simp[execOp],hx a w cx⟩
theorem Ob.assign {x:Operand} {F:VT} (hw:Aa ops Fs w0 a0 i ⟨d,.assign x,ty,pos,after,g⟩) (hx:Has ops Fs w0 a0 i ⟨d,.assign x,ty,pos,after,g⟩ x F):Ob P ops Fs w0 a0 i ⟨d,.assign x,ty,pos,after,g⟩ F:=
 Ob.stay hw fun a w cx=>⟨_,by simp[execOp],hx a w cx⟩
theorem Wq (ρ:Operand->Value) {c x y:Operand} {b:Bool} (h:ρ c = .bool b) (w:World):(execOp ρ ⟨d,.pick c x y,ty,pos,after,g⟩).run P w = .ok (.value (if b then ρ x else ρ y)) w:=by simp[execOp,asBool,h]
theorem Anc (ρ:Operand->Value) {x:Operand} {t:TypeId} {b:Bool} (h:ρ x = .bool b) (w:World):(execOp ρ ⟨d,.unOp .not t x,ty,pos,after,g⟩).run P w = .ok (.value (.bool (!b))) w:=by simp[execOp,h,go_sem]
theorem Ob.pickT {c x y:Operand} {F:VT} (hw:Aa ops Fs w0 a0 i ⟨d,.pick c x y,ty,pos,after,g⟩) (hc:Has ops Fs w0 a0 i ⟨d,.pick c x y,ty,pos,after,g⟩ c (IsB true)) (hx:Has ops Fs w0 a0 i ⟨d,.pick c x y,ty,pos,after,g⟩ x F):Ob P ops Fs w0 a0 i ⟨d,.pick c x y,ty,pos,after,g⟩ F:=
 Ob.stay hw fun a w cx=>⟨a.eval x,by rw[Wq a.eval (hc a w cx)];rfl,hx a w cx⟩
theorem Ob.pickF {c x y:Operand} {F:VT} (hw:Aa ops Fs w0 a0 i ⟨d,.pick c x y,ty,pos,after,g⟩) (hc:Has ops Fs w0 a0 i ⟨d,.pick c x y,ty,pos,after,g⟩ c (IsB false)) (hy:Has ops Fs w0 a0 i ⟨d,.pick c x y,ty,pos,after,g⟩ y F):Ob P ops Fs w0 a0 i ⟨d,.pick c x y,ty,pos,after,g⟩ F:=
 Ob.stay hw fun a w cx=>⟨a.eval y,by rw[Wq a.eval (hc a w cx)];rfl,hy a w cx⟩
theorem Ob.not {x:Operand} {b:Bool} {t:TypeId} (hw:Aa ops Fs w0 a0 i ⟨d,.unOp .not t x,ty,pos,after,g⟩) (hx:Has ops Fs w0 a0 i ⟨d,.unOp .not t x,ty,pos,after,g⟩ x (IsB b)):Ob P ops Fs w0 a0 i ⟨d,.unOp .not t x,ty,pos,after,g⟩ (IsB (!b)):=
 Ob.stay hw fun a w cx=>⟨_,Anc a.eval (hx a w cx) w,rfl⟩
theorem Ob.load {x:Operand} {G F:VT} {t:TypeId} (hw:Aa ops Fs w0 a0 i ⟨d,.load t x,ty,pos,after,g⟩) (hx:Has ops Fs w0 a0 i ⟨d,.load t x,ty,pos,after,g⟩ x G)
  (h:∀ w v,Below w0.heap.size w0 w->G w v->∃ r,(Instr.loadAt t v).run P w = .ok r w∧F w r):Ob P ops Fs w0 a0 i ⟨d,.load t x,ty,pos,after,g⟩ F:=
 Ob.stay hw fun a w cx=>by
  obtain⟨r,h1,h2⟩:=h w _ cx.le (hx a w cx)
  exact⟨r,by simp[execOp,h1],h2⟩
theorem Ob.fieldAddr {x:Operand} {G F:VT} {t:TypeId} {f:Nat} (hw:Aa ops Fs w0 a0 i ⟨d,.fieldAddr t x f,ty,pos,after,g⟩) (hx:Has ops Fs w0 a0 i ⟨d,.fieldAddr t x f,ty,pos,after,g⟩ x G)
  (h:∀ w v,Below w0.heap.size w0 w->G w v->∃ r,(Instr.fieldAt t v f).run P w = .ok r w∧F w r):Ob P ops Fs w0 a0 i ⟨d,.fieldAddr t x f,ty,pos,after,g⟩ F:=
 Ob.stay hw fun a w cx=>by
  obtain⟨r,h1,h2⟩:=h w _ cx.le (hx a w cx)
  exact⟨r,by simp[execOp,h1],h2⟩
theorem Ob.extract {x:Operand} {G F:VT} {n:Nat} (hw:Aa ops Fs w0 a0 i ⟨d,.extract x n,ty,pos,after,g⟩) (hx:Has ops Fs w0 a0 i ⟨d,.extract x n,ty,pos,after,g⟩ x G)
  (h:∀ w v,Below w0.heap.size w0 w->G w v->∃ r,(Instr.extract v n).run P w = .ok r w∧F w r):Ob P ops Fs w0 a0 i ⟨d,.extract x n,ty,pos,after,g⟩ F:=
 Ob.stay hw fun a w cx=>by
  obtain⟨r,h1,h2⟩:=h w _ cx.le (hx a w cx)
  exact⟨r,by simp[execOp,h1],h2⟩
theorem Ob.indexAddr {x y:Operand} {G H F:VT} {t:TypeId} (hw:Aa ops Fs w0 a0 i ⟨d,.indexAddr t x y,ty,pos,after,g⟩) (hx:Has ops Fs w0 a0 i ⟨d,.indexAddr t x y,ty,pos,after,g⟩ x G) (hy:Has ops Fs w0 a0 i ⟨d,.indexAddr t x y,ty,pos,after,g⟩ y H)
  (h:∀ w u v,Below w0.heap.size w0 w->G w u->H w v->∃ r,(Instr.indexAt t u v).run P w = .ok r w∧F w r):Ob P ops Fs w0 a0 i ⟨d,.indexAddr t x y,ty,pos,after,g⟩ F:=
 Ob.stay hw fun a w cx=>by
  obtain⟨r,h1,h2⟩:=h w _ _ cx.le (hx a w cx) (hy a w cx)
  exact⟨r,by simp[execOp,h1],h2⟩
theorem Ob.bin {x y:Operand} {G H F:VT} {b:BinOp} {t t':TypeId} (hw:Aa ops Fs w0 a0 i ⟨d,.binOp b t x y t',ty,pos,after,g⟩) (hx:Has ops Fs w0 a0 i ⟨d,.binOp b t x y t',ty,pos,after,g⟩ x G) (hy:Has ops Fs w0 a0 i ⟨d,.binOp b t x y t',ty,pos,after,g⟩ y H)
  (h:∀ w u v,Below w0.heap.size w0 w->G w u->H w v->∃ r,(eqGuard b t x y u v).run P w = .ok () w∧(binOp b t u v).run P w = .ok r w∧F w r):Ob P ops Fs w0 a0 i ⟨d,.binOp b t x y t',ty,pos,after,g⟩ F:=
 Ob.stay hw fun a w cx=>by
  obtain⟨r,h0,h1,h2⟩:=h w _ _ cx.le (hx a w cx) (hy a w cx)
  exact⟨r,by simp[execOp,h0,h1],h2⟩
theorem Ob.buildSlice {F:VT} {t:TypeId} {n:Nat} {ps:Array (Nat×Operand)} (hw:Aa ops Fs w0 a0 i ⟨d,.buildSlice t n ps,ty,pos,after,g⟩)
  (h:∀ a w,Cx ops Fs w0 a0 i ⟨d,.buildSlice t n ps,ty,pos,after,g⟩ a w->∃ r w',(Instr.buildSlice t n (ps.map fun(i,x)=>(i,a.eval x))).run P w = .ok r w'∧Below w.heap.size w w'∧F w' r):Ob P ops Fs w0 a0 i ⟨d,.buildSlice t n ps,ty,pos,after,g⟩ F:=
 Ob.any hw fun a w cx=>by
  obtain⟨r,w',h1,h2,h3⟩:=h a w cx
  exact⟨r,w',by simp[execOp,h1],h2,h3⟩
theorem Ob.loadV {x:Operand} {p r:Value} {t:TypeId} (hw:Aa ops Fs w0 a0 i ⟨d,.load t x,ty,pos,after,g⟩) (hx:Has ops Fs w0 a0 i ⟨d,.load t x,ty,pos,after,g⟩ x (Is p))
  (h:∀ w,Below w0.heap.size w0 w->(Instr.loadAt t p).run P w = .ok r w):Ob P ops Fs w0 a0 i ⟨d,.load t x,ty,pos,after,g⟩ (Is r):=
 Ob.load hw hx fun w v hb e=>⟨r,by rw[show v=p from e];exact h w hb,rfl⟩
theorem Ob.fieldV {x:Operand} {p r:Value} {t:TypeId} {f:Nat} (hw:Aa ops Fs w0 a0 i ⟨d,.fieldAddr t x f,ty,pos,after,g⟩) (hx:Has ops Fs w0 a0 i ⟨d,.fieldAddr t x f,ty,pos,after,g⟩ x (Is p))
  (h:∀ w,(Instr.fieldAt t p f).run P w = .ok r w):Ob P ops Fs w0 a0 i ⟨d,.fieldAddr t x f,ty,pos,after,g⟩ (Is r):=
 Ob.fieldAddr hw hx fun w v _ e=>⟨r,by rw[show v=p from e];exact h w,rfl⟩
theorem Ob.indexV {x y:Operand} {p q r:Value} {t:TypeId} (hw:Aa ops Fs w0 a0 i ⟨d,.indexAddr t x y,ty,pos,after,g⟩) (hx:Has ops Fs w0 a0 i ⟨d,.indexAddr t x y,ty,pos,after,g⟩ x (Is p)) (hy:Has ops Fs w0 a0 i ⟨d,.indexAddr t x y,ty,pos,after,g⟩ y (Is q))
  (h:∀ w,(Instr.indexAt t p q).run P w = .ok r w):Ob P ops Fs w0 a0 i ⟨d,.indexAddr t x y,ty,pos,after,g⟩ (Is r):=
 Ob.indexAddr hw hx hy fun w u v _ e e'=>⟨r,by rw[show u=p from e,show v=q from e'];exact h w,rfl⟩
theorem Ob.binV {x y:Operand} {p q r:Value} {b:BinOp} {t t':TypeId} (hw:Aa ops Fs w0 a0 i ⟨d,.binOp b t x y t',ty,pos,after,g⟩) (hx:Has ops Fs w0 a0 i ⟨d,.binOp b t x y t',ty,pos,after,g⟩ x (Is p)) (hy:Has ops Fs w0 a0 i ⟨d,.binOp b t x y t',ty,pos,after,g⟩ y (Is q))
  (h:∀ w,(eqGuard b t x y p q).run P w = .ok () w∧(Go.binOp b t p q).run P w = .ok r w):Ob P ops Fs w0 a0 i ⟨d,.binOp b t x y t',ty,pos,after,g⟩ (Is r):=
 Ob.bin hw hx hy fun w u v _ e e'=>⟨r,by rw[show u=p from e,show v=q from e'];exact(h w).1,by rw[show u=p from e,show v=q from e'];exact(h w).2,rfl⟩
theorem Ob.lenV {x:Operand} {p r:Value} {t:TypeId} (hw:Aa ops Fs w0 a0 i ⟨d,.call ⟨.builtin .len,#[x],#[t]⟩,ty,pos,after,g⟩) (hx:Has ops Fs w0 a0 i ⟨d,.call ⟨.builtin .len,#[x],#[t]⟩,ty,pos,after,g⟩ x (Is p))
  (h:∀ w,(Builtin.len_ #[t] ty #[p]).run P w = .ok r w):Ob P ops Fs w0 a0 i ⟨d,.call ⟨.builtin .len,#[x],#[t]⟩,ty,pos,after,g⟩ (Is r):=
 Ob.stay hw fun a w cx=>⟨r,by
  have h1:a.eval x=p:=hx a w cx
  have h2:=h w
  generalize a.eval=ρ at h1
  simp[execOp,resolve,invoke,builtin,h1,h2],rfl⟩
theorem Yq {f:FuncId} {args:Array Operand} {tys:Array TypeId} (he:Enters P f) (a:Act) (w:World):(execOp a.eval ⟨d,.call ⟨.value (.func f),args,tys⟩,ty,pos,after,g⟩).run P w = .ok (.enter f (args.map a.eval)) w:=by
 have:=he (args.map a.eval) w
 simp[execOp,resolve,Act.eval,Deferred.ofValue,invoke,this]
theorem Ob.call {f:FuncId} {args:Array Operand} {tys:Array TypeId} {F:VT} (hw:Aa ops Fs w0 a0 i ⟨d,.call ⟨.value (.func f),args,tys⟩,ty,pos,after,g⟩) (he:Enters P f)
  (h:∀ a w,Cx ops Fs w0 a0 i ⟨d,.call ⟨.value (.func f),args,tys⟩,ty,pos,after,g⟩ a w->Calls P f (args.map a.eval) w (Ret w F)):Ob P ops Fs w0 a0 i ⟨d,.call ⟨.value (.func f),args,tys⟩,ty,pos,after,g⟩ F:=fun a w cx=>by
 rw[if_pos (hw a w cx)]
 unfold Oper.wp
 rw[Yq he a w]
 refine(h a w cx).mono ?_
 rintro e w' ⟨v,rfl,hb,hF⟩
 exact⟨v,rfl,hb,hF⟩
theorem Ob.call1 {f:FuncId} {tys:Array TypeId} {x:Operand} {G F:VT} (hw:Aa ops Fs w0 a0 i ⟨d,.call ⟨.value (.func f),#[x],tys⟩,ty,pos,after,g⟩) (he:Enters P f)
  (hx:Has ops Fs w0 a0 i ⟨d,.call ⟨.value (.func f),#[x],tys⟩,ty,pos,after,g⟩ x G)
  (h:∀ w v,Below w0.heap.size w0 w->G w v->Calls P f #[v] w (Ret w F)):Ob P ops Fs w0 a0 i ⟨d,.call ⟨.value (.func f),#[x],tys⟩,ty,pos,after,g⟩ F:=Ob.call hw he fun a w cx=>by rw[List.map_toArray];exact h w _ cx.le (hx a w cx)
theorem Ob.call2 {f:FuncId} {tys:Array TypeId} {x y:Operand} {G H F:VT} (hw:Aa ops Fs w0 a0 i ⟨d,.call ⟨.value (.func f),#[x,y],tys⟩,ty,pos,after,g⟩) (he:Enters P f)
  (hx:Has ops Fs w0 a0 i ⟨d,.call ⟨.value (.func f),#[x,y],tys⟩,ty,pos,after,g⟩ x G) (hy:Has ops Fs w0 a0 i ⟨d,.call ⟨.value (.func f),#[x,y],tys⟩,ty,pos,after,g⟩ y H)
  (h:∀ w u v,Below w0.heap.size w0 w->G w u->H w v->Calls P f #[u,v] w (Ret w F)):Ob P ops Fs w0 a0 i ⟨d,.call ⟨.value (.func f),#[x,y],tys⟩,ty,pos,after,g⟩ F:=Ob.call hw he fun a w cx=>by rw[List.map_toArray];exact h w _ _ cx.le (hx a w cx) (hy a w cx)
theorem Ob.call3 {f:FuncId} {tys:Array TypeId} {x y z:Operand} {G H K F:VT} (hw:Aa ops Fs w0 a0 i ⟨d,.call ⟨.value (.func f),#[x,y,z],tys⟩,ty,pos,after,g⟩) (he:Enters P f)
  (hx:Has ops Fs w0 a0 i ⟨d,.call ⟨.value (.func f),#[x,y,z],tys⟩,ty,pos,after,g⟩ x G) (hy:Has ops Fs w0 a0 i ⟨d,.call ⟨.value (.func f),#[x,y,z],tys⟩,ty,pos,after,g⟩ y H) (hz:Has ops Fs w0 a0 i ⟨d,.call ⟨.value (.func f),#[x,y,z],tys⟩,ty,pos,after,g⟩ z K)
  (h:∀ w u v s,Below w0.heap.size w0 w->G w u->H w v->K w s->Calls P f #[u,v,s] w (Ret w F)):Ob P ops Fs w0 a0 i ⟨d,.call ⟨.value (.func f),#[x,y,z],tys⟩,ty,pos,after,g⟩ F:=Ob.call hw he fun a w cx=>by rw[List.map_toArray];exact h w _ _ _ cx.le (hx a w cx) (hy a w cx) (hz a w cx)
theorem Ob.call1V {f:FuncId} {tys:Array TypeId} {x:Operand} {p1:Value} {F:VT} (hw:Aa ops Fs w0 a0 i ⟨d,.call ⟨.value (.func f),#[x],tys⟩,ty,pos,after,g⟩) (he:Enters P f) (hx:Has ops Fs w0 a0 i ⟨d,.call ⟨.value (.func f),#[x],tys⟩,ty,pos,after,g⟩ x (Is p1))
  (h:∀ w,Below w0.heap.size w0 w->Calls P f #[p1] w (Ret w F)):Ob P ops Fs w0 a0 i ⟨d,.call ⟨.value (.func f),#[x],tys⟩,ty,pos,after,g⟩ F:=Ob.call1 hw he hx fun w v0 hb e0=>by unfold Is at *;subst e0;exact h w hb
theorem Ob.call2V {f:FuncId} {tys:Array TypeId} {x y:Operand} {p1 p2:Value} {F:VT} (hw:Aa ops Fs w0 a0 i ⟨d,.call ⟨.value (.func f),#[x,y],tys⟩,ty,pos,after,g⟩) (he:Enters P f) (hx:Has ops Fs w0 a0 i ⟨d,.call ⟨.value (.func f),#[x,y],tys⟩,ty,pos,after,g⟩ x (Is p1)) (hy:Has ops Fs w0 a0 i ⟨d,.call ⟨.value (.func f),#[x,y],tys⟩,ty,pos,after,g⟩ y (Is p2))
  (h:∀ w,Below w0.heap.size w0 w->Calls P f #[p1,p2] w (Ret w F)):Ob P ops Fs w0 a0 i ⟨d,.call ⟨.value (.func f),#[x,y],tys⟩,ty,pos,after,g⟩ F:=Ob.call2 hw he hx hy fun w v0 v1 hb e0 e1=>by unfold Is at *;subst e0;subst e1;exact h w hb
theorem Ob.call3V {f:FuncId} {tys:Array TypeId} {x y z:Operand} {p1 p2 p3:Value} {F:VT} (hw:Aa ops Fs w0 a0 i ⟨d,.call ⟨.value (.func f),#[x,y,z],tys⟩,ty,pos,after,g⟩) (he:Enters P f) (hx:Has ops Fs w0 a0 i ⟨d,.call ⟨.value (.func f),#[x,y,z],tys⟩,ty,pos,after,g⟩ x (Is p1)) (hy:Has ops Fs w0 a0 i ⟨d,.call ⟨.value (.func f),#[x,y,z],tys⟩,ty,pos,after,g⟩ y (Is p2)) (hz:Has ops Fs w0 a0 i ⟨d,.call ⟨.value (.func f),#[x,y,z],tys⟩,ty,pos,after,g⟩ z (Is p3))
  (h:∀ w,Below w0.heap.size w0 w->Calls P f #[p1,p2,p3] w (Ret w F)):Ob P ops Fs w0 a0 i ⟨d,.call ⟨.value (.func f),#[x,y,z],tys⟩,ty,pos,after,g⟩ F:=Ob.call3 hw he hx hy hz fun w v0 v1 v2 hb e0 e1 e2=>by unfold Is at *;subst e0;subst e1;subst e2;exact h w hb
end
theorem mixed:Tryz.prog.follows .mixedOrders=true:=by kernel_rfl
section
variable {w0 w:World} {b o:Nat}
theorem Bt {x y:Int} (hb:Below w0.heap.size w0 w) (h1:w0.cell? ⟨b,o,none⟩=some (.int .i64 x)) (h2:w0.cell? ⟨b,o+1,none⟩=some (.int .i64 y)):(Instr.loadAt 224 (.pointer (some ⟨b,o,none⟩))).run Tryz.prog w = .ok (.agg #[.int .i64 x,.int .i64 y]) w:=by
 have c1:=Ad hb h1
 have c2:=Ad hb h2
 simp[go_sem,c1,c2]
theorem Mi {x:Int} (hb:Below w0.heap.size w0 w) (h1:w0.cell? ⟨b,o,none⟩=some (.int .i64 x)):(Instr.loadAt 3 (.pointer (some ⟨b,o,none⟩))).run Tryz.prog w = .ok (.int .i64 x) w:=by
 have c1:=Ad hb h1
 simp[go_sem,c1]
theorem Qv:(Instr.fieldAt 224 (.pointer (some ⟨b,o,none⟩)) 0).run Tryz.prog w = .ok (.pointer (some ⟨b,o,none⟩)) w:=by simp[go_sem]
theorem Qe:(Instr.fieldAt 224 (.pointer (some ⟨b,o,none⟩)) 1).run Tryz.prog w = .ok (.pointer (some ⟨b,o+1,none⟩)) w:=by simp[go_sem]
theorem Cm {n c k:Nat} (hk:k<n):(Instr.indexAt 135 (.slice (some ⟨b,o,none⟩) n c) (.int .i64 (k:Int))).run Tryz.prog w = .ok (.pointer (some ⟨b,o+k*2,none⟩)) w:=by
 have h1:(0:Int)<=(k:Int):=by omega
 have h2:(k:Int)<(n:Int):=by omega
 simp[go_sem,h1,h2]
theorem Km {x y:Operand} {k:Nat} (hk:k+1<=9223372036854775807):(eqGuard .sub 3 x y (.int .i64 ((k+1:Nat):Int)) (.int .i64 1)).run Tryz.prog w = .ok () w∧(Go.binOp .sub 3 (.int .i64 ((k+1:Nat):Int)) (.int .i64 1)).run Tryz.prog w = .ok (.int .i64 (k:Int)) w:=by
 have e:IntKind.i64.wrap (k:Int)=k:=IntWalk.i64_in _ (by omega)
 constructor
 ·simp[go_sem]
 ·simp[go_sem,e]
theorem Qb:(Instr.fieldAt 138 (.pointer (some ⟨b,o,none⟩)) 0).run Tryz.prog w = .ok (.pointer (some ⟨b,o,none⟩)) w:=by simp[go_sem]
theorem Abu:(Instr.fieldAt 138 (.pointer (some ⟨b,o,none⟩)) 1).run Tryz.prog w = .ok (.pointer (some ⟨b,o+1,none⟩)) w:=by simp[go_sem]
theorem Yb {A:Option Addr} {n c:Nat} (hb:Below w0.heap.size w0 w) (h1:w0.cell? ⟨b,o,none⟩=some (.slice A n c)):(Instr.loadAt 136 (.pointer (some ⟨b,o,none⟩))).run Tryz.prog w = .ok (.slice A n c) w:=by
 have c1:=Ad hb h1
 simp[go_sem,c1]
theorem Agd {A:Option Addr} {n c:Nat} (hb:Below w0.heap.size w0 w) (h1:w0.cell? ⟨b,o,none⟩=some (.slice A n c)):(Instr.loadAt 135 (.pointer (some ⟨b,o,none⟩))).run Tryz.prog w = .ok (.slice A n c) w:=by
 have c1:=Ad hb h1
 simp[go_sem,c1]
theorem Aod {x y:Operand} {a c:Int} (r:Int) (h:IntKind.i64.wrap (a+c)=r):(eqGuard .add 3 x y (.int .i64 a) (.int .i64 c)).run Tryz.prog w = .ok () w∧(Go.binOp .add 3 (.int .i64 a) (.int .i64 c)).run Tryz.prog w = .ok (.int .i64 r) w:=by subst h;simp[go_sem]
theorem D8 {A:Option Addr} {n c:Nat} {ty:TypeId}:(Builtin.len_ #[135] ty #[.slice A n c]).run Tryz.prog w = .ok (.int .i64 (n:Int)) w:=by simp[go_sem]
theorem Ev {x y:Operand} {k:IntKind} {t:TypeId} {a c:Int} (r:Bool) (h:(decide (c<a))=r):(eqGuard .gtr t x y (.int k a) (.int k c)).run Tryz.prog w = .ok () w∧(Go.binOp .gtr t (.int k a) (.int k c)).run Tryz.prog w = .ok (.bool r) w:=by subst h;simp[go_sem]
theorem Jc {x y:Operand} {k:IntKind} {t:TypeId} {a c:Int} (r:Bool) (h:(decide (c<=a))=r):(eqGuard .geq t x y (.int k a) (.int k c)).run Tryz.prog w = .ok () w∧(Go.binOp .geq t (.int k a) (.int k c)).run Tryz.prog w = .ok (.bool r) w:=by subst h;simp[go_sem]
theorem Ji {x y:Operand} {k:IntKind} {t:TypeId} {a c:Int} (r:Bool) (h:(decide (a<c))=r):(eqGuard .lss t x y (.int k a) (.int k c)).run Tryz.prog w = .ok () w∧(Go.binOp .lss t (.int k a) (.int k c)).run Tryz.prog w = .ok (.bool r) w:=by subst h;simp[go_sem]
theorem Acm {x y:Operand} {k:IntKind} {t:TypeId} {a c:Int} (r:Bool) (h:(decide (a<=c))=r):(eqGuard .leq t x y (.int k a) (.int k c)).run Tryz.prog w = .ok () w∧(Go.binOp .leq t (.int k a) (.int k c)).run Tryz.prog w = .ok (.bool r) w:=by subst h;simp[go_sem]
theorem Gc {x y:Operand} {k:IntKind} {t:TypeId} {a c:Int} (r:Bool) (h:(a==c)=r):(eqGuard .eql t x y (.int k a) (.int k c)).run Tryz.prog w = .ok () w∧(Go.binOp .eql t (.int k a) (.int k c)).run Tryz.prog w = .ok (.bool r) w:=by subst h;simp[go_sem]
end
def Bv (l:List Dot):List Value:=l.flatMap fun d=>[.int .i64 d.1,.int .i64 d.2]
theorem Ia (d:Dot) (l:List Dot):Bv (d::l) = .int .i64 d.1 :: .int .i64 d.2::Bv l:=rfl
theorem Ln (a b:List Dot):Bv (a++b)=Bv a++Bv b:=by unfold Bv;rw[List.flatMap_append]
theorem Bn:∀ l:List Dot,(Bv l).length=l.length*2
 | []=>rfl
 | d::l=>by rw[Ia];simp only[List.length_cons,Bn l];omega
theorem Fp:∀ (l:List Dot) (i:Nat) (d:Dot),l[i]?=some d->(Bv l)[i*2]?=some (.int .i64 d.1)∧(Bv l)[i*2+1]?=some (.int .i64 d.2)
 | [],i,d,h=>by simp at h
 | a::l,0,d,h=>by simp at h;subst h;exact⟨rfl,rfl⟩
 | a::l,i+1,d,h=>by
  have:=Fp l i d (by simpa using h)
  rw[Ia,show(i+1)*2=i*2+1+1 by omega]
  simpa using this
theorem Uo (l:List Dot) (j:Nat) (u:Value) (h:(Bv l)[j]?=some u):∃ i d,l[i]?=some d∧((j=i*2∧u = .int .i64 d.1)∨(j=i*2+1∧u = .int .i64 d.2)):=by
 have hl:j<l.length*2:=by rw[<-Bn];exact(List.getElem?_eq_some_iff.1 h).1
 have hi:j / 2<l.length:=by omega
 obtain⟨h1,h2⟩:=Fp l (j / 2) l[j / 2] (List.getElem?_eq_getElem hi)
 refine⟨j / 2,l[j / 2],List.getElem?_eq_getElem hi,?_⟩
 rcases Nat.mod_two_eq_zero_or_one j with hm | hm
 ·left
  have e:j=j / 2*2:=by omega
  rw[<-e,h] at h1
  exact⟨e,by simpa using h1⟩
 ·right
  have e:j=j / 2*2+1:=by omega
  rw[<-e,h] at h2
  exact⟨e,by simpa using h2⟩
theorem Q5 (l:List Dot):∀ u∈Bv l,u.oneCell'=true:=by
 intro u hu
 obtain⟨j,hj⟩:=List.getElem?_of_mem hu
 obtain⟨i,d,_,h | h⟩:=Uo l j u hj <;> rw[h.2] <;> rfl
theorem Bz (b o j:Nat):(⟨b,o,none⟩:Addr).add j=⟨b,o+j,none⟩:=by unfold Addr.add;split <;> simp_all
theorem Bc.cells {w:World} {A:Option Addr} {n c:Nat} {l:List Dot} (h:Bc w A n c l) {a:Addr} (hA:A=some a) (j:Nat) (u:Value) (hu:(Bv l)[j]?=some u):w.cell? (a.add j)=some u:=by
 obtain⟨i,d,hi,hh⟩:=Uo l j u hu
 obtain⟨b,o,e,_,h1,h2⟩:=h.cell i d hi
 rw[hA] at e;cases e
 rw[Bz]
 rcases hh with⟨rfl,rfl⟩ | ⟨rfl,rfl⟩
 ·exact h1
 ·exact h2
def G4 (A:Option Addr) (c k:Nat):Option Addr:=if c=k then A else A.map (·.add (k*2))
theorem Lj {w:World} {A:Option Addr} {n c k:Nat} (h:k<=c):(Instr.sliceAt 135 (.slice A n c) none (some (.int .i64 (k:Int))) none).run Tryz.prog w = .ok (.slice A k c) w:=by
 have h1:(0:Int)<=(k:Int):=by omega
 have h2:(k:Int)<=(c:Int):=by omega
 simp[go_sem,h1,h2]
theorem D6 {w:World} {A:Option Addr} {n c k:Nat} (h:k<=n) (hc:n<=c):(Instr.sliceAt 135 (.slice A n c) (some (.int .i64 (k:Int))) none none).run Tryz.prog w = .ok (.slice (G4 A c k) (n - k) (c - k)) w:=by
 have h1:(0:Int)<=(k:Int):=by omega
 have h2:(k:Int)<=(n:Int):=by omega
 have h3:(n:Int)<=(c:Int):=by omega
 unfold G4
 simp[go_sem,h1,h2]
theorem Bc.drop {w:World} {A:Option Addr} {n c k:Nat} {l:List Dot} (h:Bc w A n c l) (hk:k<=n):Bc w (G4 A c k) (n - k) (c - k) (l.drop k):=by
 refine⟨by rw[List.length_drop,<-h.len],by have:=h.cap;omega,by have:=h.max;omega,fun e=>?_,fun i d hi=>?_⟩
 ·by_cases hc:c=k
  ·omega
  ·unfold G4 at e;rw[if_neg hc] at e
   have:A=none:=by cases A with | none=>rfl | some a=>cases e
   have:=h.nil this;omega
 ·rw[List.getElem?_drop] at hi
  obtain⟨b,o,rfl,hb,h1,h2⟩:=h.cell _ d hi
  have hl:k+i<l.length:=(List.getElem?_eq_some_iff.1 hi).1
  have hc:¬c=k:=by have:=h.cap;have:=h.len;omega
  unfold G4;rw[if_neg hc]
  refine⟨b,o+k*2,by simp[Bz],hb,?_,?_⟩
  ·rw[show o+k*2+i*2=o+(k+i)*2 by omega];exact h1
  ·rw[show o+k*2+i*2+1=o+(k+i)*2+1 by omega];exact h2
def Row (w:World) (B:Nat) (v:Value) (l:List Dot):Prop:=w.ownsRow B 224 2 v l.length (Bv l)
section
variable {w w':World} {B:Nat} {v:Value} {l:List Dot}
theorem Row.mono (h:Row w B v l) (hb:Below w.heap.size w w'):Row w' B v l:=by
 refine⟨h.1,?_⟩
 rcases h.2 with h2 | ⟨g,cap,cur,hv,hg,hh,r⟩
 ·exact .inl h2
 ·exact .inr ⟨g,cap,cur,hv,hg,(hb.block g (Array.getElem?_eq_some_iff.1 hh).1).trans hh,r⟩
theorem Row.low (h:Row w B v l) {B':Nat} (hB:B'<=B):Row w B' v l:=by
 refine⟨h.1,?_⟩
 rcases h.2 with h2 | ⟨g,cap,cur,hv,hg,r⟩
 ·exact .inl h2
 ·exact .inr ⟨g,cap,cur,hv,by omega,r⟩
theorem Row.dots (h:Row w B v l):∃ A c,v = .slice A l.length c∧Bc w A l.length c l:=by
 rcases h.2 with⟨rfl,h0⟩ | ⟨g,cap,cur,rfl,hg,hh,hn,hm,hs,ht⟩
 ·have:l=[]:=List.eq_nil_of_length_eq_zero h0
  subst this
  exact⟨none,0,rfl,Bc.nil_⟩
 ·refine⟨some ⟨g,0,none⟩,cap,rfl,rfl,hn,hm,(fun e=>nomatch e),fun i d hi=>?_⟩
  obtain⟨h1,h2⟩:=Fp l i d hi
  have hil:i<l.length:=(List.getElem?_eq_some_iff.1 hi).1
  refine⟨g,0,rfl,(Array.getElem?_eq_some_iff.1 hh).1,?_,?_⟩
  ·rw[cell_of_row w g _ cur _ (0,0) hh]
   rw[<-ht,List.getElem?_take] at h1
   split at h1
   ·simpa using h1
   ·cases h1
  ·rw[cell_of_row w g _ cur _ (0,0) hh]
   rw[<-ht,List.getElem?_take] at h2
   split at h2
   ·simpa using h2
   ·cases h2
theorem Row.nil_ (w:World) (B:Nat):Row w B (.slice none 0 0) []:=World.ownsRow_nil w B _ 2
end
def Dd (B:Nat) (l:List Dot) (w:World) (v:Value):Prop:=Row w B v l
def Aap (l:List Dot) (w:World) (v:Value):Prop:=∃ A n c,v = .slice A n c∧Bc w A n c l
instance (B:Nat) (l:List Dot):Grows (Dd B l):=⟨fun hb h=>Row.mono h hb⟩
instance (l:List Dot):Grows (Aap l):=⟨fun hb ⟨A,n,c,e,h⟩=>⟨A,n,c,e,h.mono hb⟩⟩
theorem Dd.dots {B:Nat} {l:List Dot} {w:World} {v:Value} (h:Dd B l w v):Aap l w v:=let ⟨A,c,e,h'⟩:=Row.dots h;⟨A,_,c,e,h'⟩
theorem Mh:∃ i:TypeInfo,Tryz.prog.info? 224=some i∧i.zero=some (.agg #[.int .i64 0,.int .i64 0])∧i.size=2∧i.bytes=16:=by
 obtain⟨i,h1,h2,h3,h4⟩:=info_parts (P:=Tryz.prog) (show(Tryz.prog.info? 224).map (fun i=>(i.zero,i.size,i.bytes))=some (some (.agg #[.int .i64 0,.int .i64 0]),2,16) by kernel_rfl)
 exact⟨i,h1,h2,h3,h4⟩
theorem Ac1 {t ty:TypeId} (ht:Tryz.prog.underlying t=some (.slice 224)) {w:World} {B:Nat} {v:Value} {l k:List Dot} {A:Option Addr} {n c:Nat} (h:Row w B v l) (hk:Bc w A n c k) (hs:l.length+k.length<=1000000000) (hB:B<=w.heap.size) :
  ∃ v' w',(Builtin.append_ #[t,t] ty #[v,.slice A n c]).run Tryz.prog w = .ok v' w'∧Row w' B v' (l++k)∧w.grownBy w' v.ownBlock:=by
 obtain⟨i,hi,hz,hsz,hby⟩:=Mh
 cases A with
 | none=>
  have hc:=hk.nil rfl
  have hn:n=0:=by have:=hk.cap;omega
  subst hc;subst hn
  have hk0:k=[]:=List.eq_nil_of_length_eq_zero hk.len.symm
  subst hk0
  refine⟨v,w,run_append_owned_none (P:=Tryz.prog) (w:=w) B t ty 224 i 2 ht hi v l.length (Bv l) h,by rw[List.append_nil];exact h,⟨rfl,rfl,rfl,Nat.le_refl _,fun _ _ _=>rfl⟩⟩
 | some a=>
  obtain⟨v',w',h1,h2,h3,_⟩:=run_append_own (P:=Tryz.prog) w B t ty 224 i _ 2 16 ht hi hz hsz hby rfl (by omega) v l.length (Bv l) h a n c (Bv k) (by rw[Bn,hk.len]) (fun j u hu=>hk.cells rfl j u hu) (Q5 k)
   (by rw[hk.len];unfold maxLen;omega) (by rw[hk.len];omega) hB
  refine⟨v',w',h1,?_,h3⟩
  unfold Row
  rw[List.length_append,Ln]
  rw[hk.len] at h2
  exact h2
theorem Su {t ty:TypeId} (ht:Tryz.prog.underlying t=some (.slice 224)) {w w':World} {B:Nat} {v v':Value} {l k:List Dot} {A:Option Addr} {n c:Nat} (h:Row w B v l) (hk:Bc w A n c k) (hs:l.length+k.length<=1000000000)
  (hr:(Builtin.append_ #[t,t] ty #[v,.slice A n c]).run Tryz.prog w = .ok v' w'):∀ g,v'.ownBlock=some g->v.ownBlock=some g∨w.heap.size<=g:=by
 obtain⟨i,hi,hz,hsz,hby⟩:=Mh
 cases A with
 | none=>
  have hc:=hk.nil rfl
  have hn:n=0:=by have:=hk.cap;omega
  subst hc;subst hn
  rw[run_append_owned_none (P:=Tryz.prog) (w:=w) B t ty 224 i 2 ht hi v l.length (Bv l) h] at hr
  cases hr
  exact fun g hg=>.inl hg
 | some a=>
  have hnews:∀ j u,(Bv k)[j]?=some u->w.cell? (a.add j)=some u:=fun j u hu=>hk.cells rfl j u hu
  have hlen:(Bv k).length=n*i.size:=by rw[Bn,hk.len,hsz]
  have hkl:=hk.len
  rcases h.2 with⟨rfl,h0⟩ | ⟨g,cap,cur,rfl,hbg,hg,hnc,hcm,hcs,htake⟩
  ·by_cases hm:n=0
   ·subst hm
    have hk0:k=[]:=List.eq_nil_of_length_eq_zero hkl.symm
    subst hk0
    have e:(Builtin.append_ #[t,t] ty #[.slice none 0 0,.slice (some a) 0 c]).run Tryz.prog w = .ok (.slice none 0 0) w:=by
     simp[Builtin.append_,run_underlying ht,sizeOf,typeInfo,hi,Builtin.lenOf,Builtin.firstCells,loadCells,loadCellsFrom]
    rw[e] at hr;cases hr
    exact fun g hg=>.inl hg
   ·rw[run_append_nil (P:=Tryz.prog) w t ty 224 i _ ht hi hz a n c (Bv k) hlen hnews (by omega) (by omega) (by rw[hby];omega)] at hr
    cases hr
    intro g hg;simp[Value.ownBlock] at hg;exact .inr (by omega)
  ·by_cases hroom:l.length+n<=cap
   ·rw[run_append_room (P:=Tryz.prog) w t ty 224 i ht hi g l.length cap cur hg a n c (Bv k) hlen hnews (Q5 k) hroom (by rw[hlen,hsz,hcs,<-Nat.add_mul];exact Nat.mul_le_mul_right _ hroom)] at hr
    cases hr
    exact fun g hg=>.inl hg
   ·have holds:∀ j u,(Bv l)[j]?=some u->w.cell? ((⟨g,0,none⟩:Addr).add j)=some u:=World.ownsRow.cells (v:=.slice (some ⟨g,0,none⟩) l.length cap) h rfl
    rw[run_append_grow (P:=Tryz.prog) w t ty 224 i _ ht hi hz ⟨g,0,none⟩ l.length cap (Bv l) (by rw[Bn,hsz]) holds a n c (Bv k) hlen hnews (by omega) (by omega) (by rw[hby];exact growslice_fits (by omega) (by omega))] at hr
    cases hr
    intro g hg;simp[Value.ownBlock] at hg;exact .inr (by omega)
theorem Row.empty {w:World} {B g:Nat} (hB:B<=g) (h:w.heap[g]?=some (.cells #[] 224 (0,0))):Row w B (.slice (some ⟨g,0,none⟩) 0 0) []:=
 ⟨rfl,.inr ⟨g,0,#[],rfl,hB,h,Nat.le_refl _,Nat.zero_le _,rfl,rfl⟩⟩
theorem Row.grown {w w1:World} {B:Nat} {v:Value} {l:List Dot} {row:Option Nat} (h:Row w B v l) (hg:w.grownBy w1 row) (hne:v.ownBlock=none∨v.ownBlock≠row):Row w1 B v l:=World.ownsRow.kept h hg hne
theorem Row.set_ {w:World} {B:Nat} {v:Value} {l:List Dot} (h:Row w B v l) {p:Addr} (hne:∀ k,v.ownBlock=some k->k≠p.block) (u:Value):Row (w.setCell p u) B v l:=by
 refine⟨h.1,?_⟩
 rcases h.2 with h2 | ⟨g,cap,cur,hv,hg,hh,r⟩
 ·exact .inl h2
 ·exact .inr ⟨g,cap,cur,hv,hg,by rw[Below.heap_setCell w p u g (hne g (by rw[hv];rfl))];exact hh,r⟩
theorem Row.from_ {w:World} {B:Nat} {A:Option Addr} {n c:Nat} {l:List Dot} (h:Row w B (.slice A n c) l):∀ a,A=some a->B<=a.block:=fun a e=>(World.ownsRow.lt h a.block (by rw[e];rfl)).1
theorem Aav {A:Option Addr} {c k:Nat} {p:Nat->Prop} (h:∀ a,A=some a->p a.block):∀ a,G4 A c k=some a->p a.block:=by
 intro a e
 unfold G4 at e
 split at e
 ·exact h a e
 ·cases A with
  | none=>cases e
  | some a'=>simp at e;subst e;rw[show(a'.add (k*2)).block=a'.block by unfold Addr.add;split <;> rfl];exact h a' rfl
theorem Row.own (w:World) {B:Nat} {v:Value} {l:List Dot} (h:Row w B v l):∀ k,v.ownBlock=some k->B<=k:=fun k hk=>(World.ownsRow.lt h k hk).1
theorem D4 {ops:Array Oper} {rest:List Oper} {o:Oper} {a:Act} {Q:Exit->Act->World->Prop} {s x:Operand} {t:TypeId} {w:World} {B:Nat} {v:Value} {l k:List Dot} {A:Option Addr} {n c:Nat}
  (hgd:o.guard=none) (ho:o.op = .call { callee:=.builtin .append,args:=#[s,x],argTypes:=#[t,t] }) (ht:Tryz.prog.underlying t=some (.slice 224)) (hsv:a.eval s=v) (hxv:a.eval x = .slice A n c)
  (h:Row w B v l) (hk:Bc w A n c k) (hs:l.length+k.length<=1000000000) (hB:B<=w.heap.size)
  (K:∀ v' w',Row w' B v' (l++k)->w.grownBy w' v.ownBlock->wpList Tryz.prog ops Q rest (a.put o.dst v') w'):wpList Tryz.prog ops Q (o::rest) a w:=by
 refine wpList_plain hgd fun K' hK=>?_
 obtain⟨v',w',hr,h2,h3⟩:=Ac1 (ty:=o.type) ht h hk hs hB
 unfold Oper.wp
 simp[execOp,ho,resolve,invoke,builtin,hsv,hxv,hr,Result.andThen]
 exact hK _ _ (K v' w' h2 h3)
theorem Ow {ops:Array Oper} {rest:List Oper} {o:Oper} {a:Act} {Q:Exit->Act->World->Prop} {s x:Operand} {t:TypeId} {w:World} {B:Nat} {v:Value} {l k:List Dot} {A:Option Addr} {n c:Nat}
  (hgd:o.guard=none) (ho:o.op = .call { callee:=.builtin .append,args:=#[s,x],argTypes:=#[t,t] }) (ht:Tryz.prog.underlying t=some (.slice 224)) (hsv:a.eval s=v) (hxv:a.eval x = .slice A n c)
  (h:Row w B v l) (hk:Bc w A n c k) (hs:l.length+k.length<=1000000000) (hB:B<=w.heap.size)
  (K:∀ v' w',Row w' B v' (l++k)->w.grownBy w' v.ownBlock->(∀ g,v'.ownBlock=some g->v.ownBlock=some g∨w.heap.size<=g)->wpList Tryz.prog ops Q rest (a.put o.dst v') w'):wpList Tryz.prog ops Q (o::rest) a w:=by
 refine wpList_plain hgd fun K' hK=>?_
 obtain⟨v',w',hr,h2,h3⟩:=Ac1 (ty:=o.type) ht h hk hs hB
 have h4:=Su ht h hk hs hr
 unfold Oper.wp
 simp[execOp,ho,resolve,invoke,builtin,hsv,hxv,hr,Result.andThen]
 exact hK _ _ (K v' w' h2 h3 h4)
section
variable {P:Program} {ops:List Oper} {Fs:List VT} {w0:World} {a0:Act} {i:Nat} {d:Option Tmp} {ty:TypeId} {pos:String} {after:Array Edge} {g:Option (Nat×Bool)}
theorem Ob.sliceFrom_dots {x y:Operand} {A:Option Addr} {n c k:Nat} (hw:Aa ops Fs w0 a0 i ⟨d,.slice 135 x (some y) none none,ty,pos,after,g⟩) (hx:Has ops Fs w0 a0 i ⟨d,.slice 135 x (some y) none none,ty,pos,after,g⟩ x (Is (.slice A n c))) (hy:Has ops Fs w0 a0 i ⟨d,.slice 135 x (some y) none none,ty,pos,after,g⟩ y (IsI (k:Int))) (h:k<=n) (hc:n<=c) :
  Ob Tryz.prog ops Fs w0 a0 i ⟨d,.slice 135 x (some y) none none,ty,pos,after,g⟩ (Is (.slice (G4 A c k) (n - k) (c - k))):=
 Ob.stay hw fun a w cx=>⟨_,by
  have h1:a.eval x = .slice A n c:=hx a w cx
  have h2:a.eval y = .int .i64 (k:Int):=hy a w cx
  have h3:=D6 (w:=w) (A:=A) h hc
  generalize a.eval=ρ at h1 h2
  simp only[execOp,Option.map,h1,h2]
  simp[h3],rfl⟩
end
structure Enc (α:Type) where
 z:Nat
 enc:α->List Value
 len:∀ x,(enc x).length=z
 one:∀ x,∀ u∈enc x,u.oneCell'=true
def Enc.all {α:Type} (e:Enc α) (l:List α):List Value:=l.flatMap e.enc
section
variable {α:Type} {e:Enc α}
theorem Enc.all_cons (x:α) (l:List α):e.all (x::l)=e.enc x++e.all l:=rfl
theorem Enc.all_append (a b:List α):e.all (a++b)=e.all a++e.all b:=by unfold Enc.all;rw[List.flatMap_append]
theorem Enc.all_length:∀ l:List α,(e.all l).length=l.length*e.z
 | []=>by simp[Enc.all]
 | x::l=>by rw[Enc.all_cons,List.length_append,e.len,Enc.all_length l,List.length_cons,Nat.add_mul];omega
theorem Enc.all_get:∀ (l:List α) (i:Nat) (x:α),l[i]?=some x->∀ j u,(e.enc x)[j]?=some u->(e.all l)[i*e.z+j]?=some u
 | [],i,x,h,_,_,_=>by simp at h
 | a::l,0,x,h,j,u,hj=>by
  simp at h;subst h
  rw[Enc.all_cons,List.getElem?_append_left (by have:=(List.getElem?_eq_some_iff.1 hj).1;omega)]
  simpa using hj
 | a::l,i+1,x,h,j,u,hj=>by
  have:=Enc.all_get l i x (by simpa using h) j u hj
  rw[Enc.all_cons,List.getElem?_append_right (by rw[e.len,Nat.add_mul];omega)]
  have e2:(i+1)*e.z+j - (e.enc a).length=i*e.z+j:=by rw[e.len,Nat.add_mul];omega
  rw[e2];exact this
theorem Enc.all_at (l:List α) (j:Nat) (u:Value) (h:(e.all l)[j]?=some u):∃ i x,l[i]?=some x∧∃ r,(e.enc x)[r]?=some u∧j=i*e.z+r:=by
 induction l generalizing j with
 | nil=>simp[Enc.all] at h
 | cons a l ih=>
  rw[Enc.all_cons] at h
  rcases Nat.lt_or_ge j e.z with hj | hj
  ·rw[List.getElem?_append_left (by rw[e.len];exact hj)] at h
   exact⟨0,a,rfl,j,h,by omega⟩
  ·rw[List.getElem?_append_right (by rw[e.len];exact hj),e.len] at h
   obtain⟨i,x,h1,r,h2,h3⟩:=ih _ h
   exact⟨i+1,x,by simpa using h1,r,h2,by rw[Nat.add_mul];omega⟩
theorem Enc.all_one (l:List α):∀ u∈e.all l,u.oneCell'=true:=by
 intro u hu
 obtain⟨j,hj⟩:=List.getElem?_of_mem hu
 obtain⟨_,x,_,r,h,_⟩:=Enc.all_at l j u hj
 exact e.one x u (List.mem_of_getElem? h)
structure Sl (e:Enc α) (w:World) (A:Option Addr) (n c:Nat) (l:List α):Prop where
 len:n=l.length
 cap:n<=c
 max:c<=maxLen
 nil:A=none->c=0
 cell:∀ i x,l[i]?=some x->∃ b o,A=some ⟨b,o,none⟩∧b<w.heap.size∧∀ j u,(e.enc x)[j]?=some u->w.cell? ⟨b,o+i*e.z+j,none⟩=some u
def Au4 (e:Enc α) (l:List α) (w:World) (v:Value):Prop:=∃ A n c,v = .slice A n c∧Sl e w A n c l
def Ag (e:Enc α) (ty:TypeId) (w:World) (B:Nat) (v:Value) (l:List α):Prop:=w.ownsRow B ty e.z v l.length (e.all l)
def M0 (e:Enc α) (ty:TypeId) (B:Nat) (l:List α) (w:World) (v:Value):Prop:=Ag e ty w B v l
variable {w w':World} {A:Option Addr} {n c B:Nat} {l k:List α} {ty:TypeId} {v:Value}
theorem Sl.mono (h:Sl e w A n c l) (hb:Below w.heap.size w w'):Sl e w' A n c l:=
 ⟨h.len,h.cap,h.max,h.nil,fun i x hi=>by
  obtain⟨b,o,rfl,hlt,h1⟩:=h.cell i x hi
  exact⟨b,o,rfl,Nat.lt_of_lt_of_le hlt hb.size,fun j u hj=>(hb.cell (p:=⟨b,_,none⟩) hlt).trans (h1 j u hj)⟩⟩
theorem Sl.big (h:Sl e w A n c l):n<=9223372036854775807:=by have:=h.cap;have:=h.max;unfold maxLen at this;omega
theorem Sl.nil_ (e:Enc α) (w:World):Sl e w none 0 0 []:=⟨rfl,Nat.le_refl _,by unfold maxLen;omega,fun _=>rfl,fun i x h=>by simp at h⟩
theorem Sl.at_ (h:Sl e w A n c l) {i:Nat} (hi:i<n):∃ b o x,A=some ⟨b,o,none⟩∧b<w.heap.size∧l[i]?=some x∧l.drop i=x::l.drop (i+1)∧∀ j u,(e.enc x)[j]?=some u->w.cell? ⟨b,o+i*e.z+j,none⟩=some u:=by
 have hl:i<l.length:=by have:=h.len;omega
 obtain⟨b,o,e1,hb,h1⟩:=h.cell i l[i] (List.getElem?_eq_getElem hl)
 exact⟨b,o,l[i],e1,hb,List.getElem?_eq_getElem hl,by rw[List.drop_eq_getElem_cons hl],h1⟩
theorem Sl.cells (h:Sl e w A n c l) {a:Addr} (hA:A=some a) (j:Nat) (u:Value) (hu:(e.all l)[j]?=some u):w.cell? (a.add j)=some u:=by
 obtain⟨i,x,hi,r,hr,rfl⟩:=Enc.all_at l j u hu
 obtain⟨b,o,e1,_,h1⟩:=h.cell i x hi
 rw[hA] at e1;cases e1
 rw[Bz,<-Nat.add_assoc]
 exact h1 r u hr
theorem Qx:1000000<=maxLen:=by unfold maxLen;decide
theorem Sl.new (e:Enc α) (w:World) (l:List α) (hl:l.length<=1000000) (cs:Array Value) (hcs:cs.toList=e.all l) (ty:TypeId):Sl e (w.alloc (.cells cs ty)) (some ⟨w.heap.size,0,none⟩) l.length l.length l:=by
 have hlt:w.heap.size<(w.alloc (.cells cs ty)).heap.size:=(Array.getElem?_eq_some_iff.1 (heap_alloc_new w _)).1
 refine⟨rfl,Nat.le_refl _,Nat.le_trans hl Qx,(fun e=>nomatch e),fun i x hi=>⟨w.heap.size,0,rfl,hlt,fun j u hj=>?_⟩⟩
 have h1:=Enc.all_get l i x hi j u hj
 rw[<-hcs] at h1
 rw[Nat.zero_add,cell_of_row _ _ _ cs ty (0,0) (heap_alloc_new w _),<-Array.getElem?_toList]
 exact h1
theorem Ag.mono (h:Ag e ty w B v l) (hb:Below w.heap.size w w'):Ag e ty w' B v l:=by
 refine⟨h.1,?_⟩
 rcases h.2 with h2 | ⟨g,cap,cur,hv,hg,hh,r⟩
 ·exact .inl h2
 ·exact .inr ⟨g,cap,cur,hv,hg,(hb.block g (Array.getElem?_eq_some_iff.1 hh).1).trans hh,r⟩
theorem Ag.low (h:Ag e ty w B v l) {B':Nat} (hB:B'<=B):Ag e ty w B' v l:=by
 refine⟨h.1,?_⟩
 rcases h.2 with h2 | ⟨g,cap,cur,hv,hg,r⟩
 ·exact .inl h2
 ·exact .inr ⟨g,cap,cur,hv,by omega,r⟩
theorem Ag.own (h:Ag e ty w B v l):∀ q,v.ownBlock=some q->B<=q∧q<w.heap.size:=World.ownsRow.lt h
theorem Ag.nil_ (e:Enc α) (ty:TypeId) (w:World) (B:Nat):Ag e ty w B (.slice none 0 0) []:=World.ownsRow_nil w B _ _
theorem Ag.sl (h:Ag e ty w B v l):∃ A c,v = .slice A l.length c∧Sl e w A l.length c l:=by
 rcases h.2 with⟨rfl,h0⟩ | ⟨g,cap,cur,rfl,hg,hh,hn,hm,hs,ht⟩
 ·have:l=[]:=List.eq_nil_of_length_eq_zero h0
  subst this
  exact⟨none,0,rfl,Sl.nil_ e w⟩
 ·refine⟨some ⟨g,0,none⟩,cap,rfl,rfl,hn,hm,(fun e=>nomatch e),fun i x hi=>⟨g,0,rfl,(Array.getElem?_eq_some_iff.1 hh).1,fun j u hj=>?_⟩⟩
  have:=World.ownsRow.cells (v:=.slice (some ⟨g,0,none⟩) l.length cap) h rfl _ u (Enc.all_get l i x hi j u hj)
  rw[Bz,<-Nat.add_assoc] at this
  exact this
structure Inf (P:Program) (ty:TypeId) (e:Enc α) (bytes:Nat):Prop where
 ex:∃ (i:TypeInfo) (z:Value),P.info? ty=some i∧i.zero=some z∧i.size=e.z∧i.bytes=bytes∧z.cells.size=e.z
 pos:0<e.z
 by_:bytes<=1000
theorem Ah9 {P:Program} {bytes:Nat} {t rt:TypeId} (inf:Inf P ty e bytes) (ht:P.underlying t=some (.slice ty)) (h:Ag e ty w B v l) (hk:Sl e w A n c k) (hs:l.length+k.length<=1000000000) (hB:B<=w.heap.size) :
  ∃ v' w',(Builtin.append_ #[t,t] rt #[v,.slice A n c]).run P w = .ok v' w'∧Ag e ty w' B v' (l++k)∧w.grownBy w' v.ownBlock∧(v'.ownBlock=v.ownBlock∨v'.ownBlock=some w.heap.size):=by
 obtain⟨i,z,hi,hz,hsz,hby,hzs⟩:=inf.ex
 have hpos:=inf.pos
 have hbb:=inf.by_
 cases A with
 | none=>
  have hc:=hk.nil rfl
  have hn:n=0:=by have:=hk.cap;omega
  subst hc;subst hn
  have hk0:k=[]:=List.eq_nil_of_length_eq_zero hk.len.symm
  subst hk0
  refine⟨v,w,run_append_owned_none (P:=P) (w:=w) B t rt ty i e.z ht hi v l.length (e.all l) h,by rw[List.append_nil];exact h,⟨rfl,rfl,rfl,Nat.le_refl _,fun _ _ _=>rfl⟩,.inl rfl⟩
 | some a=>
  have hkl:=hk.len
  obtain⟨v',w',h1,h2,h3,_,h5⟩:=run_append_own_at (P:=P) w B t rt ty i z e.z bytes ht hi hz hsz hby hzs hpos v l.length (e.all l) h a n c (e.all k) (by rw[Enc.all_length,hk.len]) (fun j u hu=>hk.cells rfl j u hu) (Enc.all_one k)
   (by rw[hkl];unfold maxLen;omega) (by rw[hkl];exact Nat.le_trans (Nat.mul_le_mul hs hbb) (by decide)) hB
  refine⟨v',w',h1,?_,h3,h5⟩
  unfold Ag
  rw[List.length_append,Enc.all_append]
  rw[hkl] at h2
  exact h2
theorem Aj {P:Program} {bytes:Nat} {t:TypeId} {ops:Array Oper} {rest:List Oper} {o:Oper} {a:Act} {Q:Exit->Act->World->Prop} {s x:Operand} (inf:Inf P ty e bytes)
  (hgd:o.guard=none) (ho:o.op = .call { callee:=.builtin .append,args:=#[s,x],argTypes:=#[t,t] }) (ht:P.underlying t=some (.slice ty)) (hsv:a.eval s=v) (hxv:a.eval x = .slice A n c)
  (h:Ag e ty w B v l) (hk:Sl e w A n c k) (hs:l.length+k.length<=1000000000) (hB:B<=w.heap.size)
  (K:∀ v' w',Ag e ty w' B v' (l++k)->w.grownBy w' v.ownBlock->(v'.ownBlock=v.ownBlock∨v'.ownBlock=some w.heap.size)->wpList P ops Q rest (a.put o.dst v') w'):wpList P ops Q (o::rest) a w:=by
 refine wpList_plain hgd fun K' hK=>?_
 obtain⟨v',w',hr,h2,h3,h4⟩:=Ah9 (rt:=o.type) inf ht h hk hs hB
 unfold Oper.wp
 simp[execOp,ho,resolve,invoke,builtin,hsv,hxv,hr,Result.andThen]
 exact hK _ _ (K v' w' h2 h3 h4)
end
instance {α:Type} (e:Enc α) (l:List α):Grows (Au4 e l):=⟨fun hb ⟨A,n,c,e1,h⟩=>⟨A,n,c,e1,h.mono hb⟩⟩
instance {α:Type} (e:Enc α) (ty:TypeId) (B:Nat) (l:List α):Grows (M0 e ty B l):=⟨fun hb h=>Ag.mono h hb⟩
def encB:Enc UInt8:=⟨1,fun x=>[.int .u8 x.toNat],fun _=>rfl,fun x u hu=>by rw[List.mem_singleton.1 hu];rfl⟩
abbrev Ac (l:List UInt8):Value:=.string ⟨⟨l⟩⟩
theorem Mp {k:IntKind} (hk:k.signed=false) {n:Nat} (h:n<2 ^ k.bits):k.wrap (n:Int)=n:=by
 unfold IntKind.wrap
 simp only[hk,Bool.false_and,Bool.false_eq_true,if_false]
 have:((2:Int) ^ k.bits)=((2 ^ k.bits:Nat):Int):=by norm_cast
 rw[this]
 exact_mod_cast Nat.mod_eq_of_lt h
theorem Ny (k n:Nat):BitVec.ofInt k (n:Int)=BitVec.ofNat k n:=by
 apply BitVec.eq_of_toNat_eq
 rw[BitVec.toNat_ofInt,BitVec.toNat_ofNat]
 have:((2 ^ k:Nat):Int)=((2 ^ k:Nat):Int):=rfl
 omega
section
variable {k:IntKind} {a b:Nat}
theorem Vm (hk:k.signed=false) (ha:a<2 ^ k.bits) (hb:b<2 ^ k.bits):Go.bits .and k (a:Int) (b:Int)=((a &&& b:Nat):Int):=by
 unfold Go.bits
 simp only[Ny]
 rw[BitVec.toNat_and,BitVec.toNat_ofNat,BitVec.toNat_ofNat,Nat.mod_eq_of_lt ha,Nat.mod_eq_of_lt hb]
 exact Mp hk (Nat.lt_of_le_of_lt Nat.and_le_left ha)
theorem Ox (hk:k.signed=false) (ha:a<2 ^ k.bits) (hb:b<2 ^ k.bits):Go.bits .or k (a:Int) (b:Int)=((a ||| b:Nat):Int):=by
 unfold Go.bits
 simp only[Ny]
 rw[BitVec.toNat_or,BitVec.toNat_ofNat,BitVec.toNat_ofNat,Nat.mod_eq_of_lt ha,Nat.mod_eq_of_lt hb]
 exact Mp hk (Nat.or_lt_two_pow ha hb)
theorem Jm (hk:k.signed=false) (ha:a<2 ^ k.bits) (hb:b<2 ^ k.bits):Go.bits .xor k (a:Int) (b:Int)=((a ^^^ b:Nat):Int):=by
 unfold Go.bits
 simp only[Ny]
 rw[BitVec.toNat_xor,BitVec.toNat_ofNat,BitVec.toNat_ofNat,Nat.mod_eq_of_lt ha,Nat.mod_eq_of_lt hb]
 exact Mp hk (Nat.xor_lt_two_pow ha hb)
end
theorem Aqp {a b:Nat} (ha:a<256) (hb:b<256):Go.bits .xor .u8 (a:Int) (b:Int)=((a ^^^ b:Nat):Int):=Jm (k:=.u8) rfl ha hb
theorem Ank {a b:Nat} (ha:a<4294967296) (hb:b<4294967296):Go.bits .and .u32 (a:Int) (b:Int)=((a &&& b:Nat):Int):=Vm (k:=.u32) rfl ha hb
theorem Aq7 {a b:Nat} (ha:a<4294967296) (hb:b<4294967296):Go.bits .or .u32 (a:Int) (b:Int)=((a ||| b:Nat):Int):=Ox (k:=.u32) rfl ha hb
theorem Pr {a b:Nat} (ha:a<4294967296) (hb:b<4294967296):Go.bits .xor .u32 (a:Int) (b:Int)=((a ^^^ b:Nat):Int):=Jm (k:=.u32) rfl ha hb
theorem M3 {a:Nat} (ha:a<4294967296):IntKind.u32.wrap (a:Int)=a:=Mp (k:=.u32) rfl ha
theorem Aqe {a b:Nat} (ha:a<18446744073709551616) (hb:b<18446744073709551616):Go.bits .or .u64 (a:Int) (b:Int)=((a ||| b:Nat):Int):=Ox (k:=.u64) rfl ha hb
theorem Anz {a b:Nat} (ha:a<18446744073709551616) (hb:b<18446744073709551616):Go.bits .xor .u64 (a:Int) (b:Int)=((a ^^^ b:Nat):Int):=Jm (k:=.u64) rfl ha hb
theorem wrap_u64 {a:Nat} (ha:a<18446744073709551616):IntKind.u64.wrap (a:Int)=a:=Mp (k:=.u64) rfl ha
def Sv:Nat:=3988292384
def Hx (n:Nat):Nat:=if n % 2=1 then (n / 2) ^^^ Sv else n / 2
def Jz (i:Nat):Nat:=Hx (Hx (Hx (Hx (Hx (Hx (Hx (Hx i)))))))
def Ne (n:Nat) (x:UInt8):Nat:=Jz ((n % 256) ^^^ x.toNat) ^^^ (n / 256)
def Agu (n:Nat) (x:UInt8):Nat:=Jz (n ^^^ x.toNat)
theorem Gw {n:Nat} (h:n<4294967296):Hx n<4294967296:=by
 unfold Hx
 split
 ·exact Nat.xor_lt_two_pow (n:=32) (by omega) (by unfold Sv;omega)
 ·omega
theorem Aic {n:Nat} (h:n<4294967296):Jz n<4294967296:=Gw (Gw (Gw (Gw (Gw (Gw (Gw (Gw h)))))))
theorem Akz (a b:Nat):(a ^^^ b) / 2=(a / 2) ^^^ (b / 2):=by
 have:=Nat.xor_div_two_pow (a:=a) (b:=b) (n:=1)
 simpa using this
theorem Ai1 (a b:Nat):(a ^^^ b) % 2=(a % 2+b % 2) % 2:=by
 have:=Nat.xor_mod_two_pow (a:=a) (b:=b) (n:=1)
 have h:(a ^^^ b) % 2=(a % 2) ^^^ (b % 2):=by simpa using this
 rw[h]
 rcases Nat.mod_two_eq_zero_or_one a with h1 | h1 <;> rcases Nat.mod_two_eq_zero_or_one b with h2 | h2 <;> rw[h1,h2] <;> rfl
theorem Gg (a b:Nat):Hx (a ^^^ b)=Hx a ^^^ Hx b:=by
 unfold Hx
 rw[Akz,Ai1]
 rcases Nat.mod_two_eq_zero_or_one a with h1 | h1 <;> rcases Nat.mod_two_eq_zero_or_one b with h2 | h2 <;> simp only[h1,h2]
 ·simp
 ·simp[Nat.xor_assoc]
 ·simp only[Nat.zero_ne_one,if_false,if_true]
  rw[Nat.xor_assoc,Nat.xor_comm (b / 2) Sv,<-Nat.xor_assoc]
 ·simp only[if_true,show((1+1) % 2=1)=False by simp,if_false]
  have e:(a / 2 ^^^ Sv) ^^^ (b / 2 ^^^ Sv)=(a / 2 ^^^ b / 2) ^^^ (Sv ^^^ Sv):=by
   rw[Nat.xor_assoc,Nat.xor_assoc]
   congr 1
   rw[<-Nat.xor_assoc,<-Nat.xor_assoc,Nat.xor_comm Sv (b / 2)]
  rw[e,Nat.xor_self,Nat.xor_zero]
theorem Amq (a b:Nat):Jz (a ^^^ b)=Jz a ^^^ Jz b:=by
 unfold Jz
 rw[Gg,Gg,Gg,Gg,Gg,Gg,Gg,Gg]
theorem E8 {n:Nat}:Hx (2*n)=n:=by
 unfold Hx
 rw[if_neg (by omega)];omega
theorem Ajp (n:Nat):Jz (n*256)=n:=by
 unfold Jz
 have:n*256=2*(2*(2*(2*(2*(2*(2*(2*n))))))):=by omega
 rw[this,E8,E8,E8,E8,E8,E8,E8,E8]
theorem Ad2 (n:Nat):n=(n % 256) ^^^ (n / 256*256):=by
 apply Nat.eq_of_testBit_eq
 intro i
 rw[Nat.testBit_xor]
 have h1:(n % 256).testBit i=(decide (i<8)&&n.testBit i):=by
  have:=Nat.testBit_mod_two_pow n 8 i
  simpa using this
 have h2:(n / 256*256).testBit i=(decide (8<=i)&&n.testBit i):=by
  have e:n / 256*256=(n >>> 8) <<< 8:=by rw[Nat.shiftRight_eq_div_pow,Nat.shiftLeft_eq]
  rw[e,Nat.testBit_shiftLeft,Nat.testBit_shiftRight]
  by_cases h:8<=i
  ·simp[h]
  ·simp[h]
 rw[h1,h2]
 by_cases h:i<8
 ·have:¬8<=i:=by omega
  simp[h,this]
 ·have:8<=i:=by omega
  simp[h,this]
theorem An4 (n:Nat) (x:UInt8):Ne n x=Agu n x:=by
 unfold Ne Agu
 have e:n ^^^ x.toNat=((n % 256) ^^^ x.toNat) ^^^ (n / 256*256):=by
  have h:=Ad2 n
  rw[Nat.xor_assoc,Nat.xor_comm x.toNat,<-Nat.xor_assoc,<-h]
 rw[e,Amq ((n % 256) ^^^ x.toNat),Ajp]
def Ux (n:Nat) (l:List UInt8):Nat:=l.foldl Ne n
def Abm (l:List UInt8):Nat:=4294967295 - Ux 4294967295 l
abbrev IsK (k:IntKind) (n:Nat):=Is (.int k (n:Int))
theorem Aju {w w':World} {k:IntKind} {n:Nat} {z:Int} (e:z=(n:Int)) (hb:Below w.heap.size w w'):Ret w (IsK k n) (.returned (.int k z)) w':=⟨_,rfl,hb,by rw[e];rfl⟩
def Abt:Nat->Nat->Nat
 | 0,n=>n
 | k+1,n=>Abt k (Hx n)
theorem Aay {m:Nat} (h:((m:Int) % 2==1)=false):((m:Int) / 2)=(Hx m:Nat):=by
 have h0:=beq_eq_false_iff_ne.1 h
 unfold Hx
 rw[if_neg (by omega)];omega
theorem Agm {m:Nat} (hm:m<4294967296) (h:((m:Int) % 2==1)=true):Go.bits .xor .u32 ((m:Int) / 2) 3988292384=(Hx m:Nat):=by
 have h0:=beq_iff_eq.1 h
 unfold Hx
 rw[if_pos (by omega)]
 exact Pr (a:=m / 2) (b:=Sv) (by omega) (by unfold Sv;omega)
theorem Sl.byte {w:World} {A:Option Addr} {n c:Nat} {l:List UInt8} (h:Sl encB w A n c l) {i:Nat} (hi:i<n):∃ b o x,A=some ⟨b,o,none⟩∧b<w.heap.size∧l[i]?=some x∧l.drop i=x::l.drop (i+1)∧w.cell? ⟨b,o+i,none⟩=some (.int .u8 x.toNat):=by
 obtain⟨b,o,x,h1,h2,h3,h4,h5⟩:=h.at_ hi
 refine⟨b,o,x,h1,h2,h3,h4,?_⟩
 have:=h5 0 _ rfl
 simpa [encB] using this
theorem Aj3 {n:Nat} {x:UInt8} (h:n<4294967296):Agu n x<4294967296:=Aic (Nat.xor_lt_two_pow (n:=32) h (by have:=x.toNat_lt;omega))
theorem Avo:Inf Tryz.prog 5 encB 1:=by
 obtain⟨i,h1,h2,h3,h4⟩:=info_parts (P:=Tryz.prog) (show(Tryz.prog.info? 5).map (fun i=>(i.zero,i.size,i.bytes))=some (some (.int .u8 0),1,1) by kernel_rfl)
 exact⟨⟨i,_,h1,h2,h3,h4,rfl⟩,by decide,by decide⟩
abbrev Au1 (w:World) (B:Nat) (v:Value) (l:List UInt8):Prop:=Ag encB 5 w B v l
abbrev Aje (B:Nat) (l:List UInt8):World->Value->Prop:=M0 encB 5 B l
theorem Ag.empty {α:Type} (e:Enc α) (ty:TypeId) (w:World) {B g:Nat} (hB:B<=g) (hh:w.heap[g]?=some (.cells #[] ty (0,0))):Ag e ty w B (.slice (some ⟨g,0,none⟩) 0 0) []:=
 ⟨by simp[Enc.all],.inr ⟨g,0,#[],rfl,hB,hh,Nat.le_refl _,by unfold maxLen;omega,by simp,by simp[Enc.all]⟩⟩
theorem Ag6 (A:Option Addr) (n c:Nat) (l:List UInt8) (w:World) (h:Sl encB w A n c l) (hs:n<=1000000):Calls Tryz.prog 81 #[.slice A n c] w (Ret w (Aje w.heap.size l)):=by
 have hq:=fun w a n c=>Lib.run_eql_slice_nil (P:=Tryz.prog) w 23 5 a n c 0 0 Tryz.underlying23
 cases A with
 | none=>
  have hc:=h.nil rfl
  have hn:n=0:=by have:=h.cap;omega
  subst hc;subst hn
  have hl:l=[]:=List.eq_nil_of_length_eq_zero h.len.symm
  subst hl
  clear h
  go_enter Tryz.func81,Tryz.ntmps81
  go_wp2
  go_ret
  exact⟨_,rfl,Below.refl _ _,Ag.nil_ _ _ _ _⟩
 | some a=>
  have H:=Avp h;clear h
  go_enter Tryz.func81,Tryz.ntmps81
  go_wp2_with (at_builtin;refine Aj (B:=w.heap.size) (v:=.slice (some ⟨w.heap.size,0,none⟩) 0 0) (l:=[]) Avo rfl rfl Tryz.underlying23 rfl rfl (Ag.empty _ _ _ (Nat.le_refl _) (heap_alloc_new w _)) (H.out.mono (by go_grown)) (by have:=H.out.len;simp;omega) (by simp) ?_;intro v' w' hr' hg' _;simp only[Act.put,List.setIfInBounds_toArray,List.set_cons_zero,List.set_cons_succ])
  go_ret
  exact⟨_,rfl,(Below.alloc (Below.refl _ _) (Nat.le_refl _) _).grown hg' (by simp) (fun k hk=>by simp[Value.ownBlock] at hk;omega),hr'⟩
def Si (π:List Nat) (j:Nat):Nat:=π.idxOf j
def Pg (π:List Nat) (o:Oper):Oper:={ o with after:=(o.after.toList.filterMap fun e=>if π.contains e.on then some { e with on:=Si π e.on } else none).toArray,guard:=match o.guard with | none=>none | some (j,b)=>some (Si π j,b) }
def Cv (π:List Nat) (ops:List Oper):List Oper:=π.map fun i=>Pg π (ops.getD i default)
def Lx (π:List Nat) (ops:List Oper):Bool:=
 (List.range π.length).all fun p=>match π[p]? with
  | none=>false
  | some j=>decide (Si π j=p)&&decide (j<ops.length)&&(match ops[j]? with | some o=>(o.after.toList.all fun e=>decide (e.on<ops.length))&&(match o.guard with | none=>true | some (i,_)=>π.contains i) | none=>false)
section
variable {P:Program} {ops:List Oper} {π:List Nat} {Q:Exit->Act->World->Prop}
theorem Eg (h:Lx π ops=true) {p j:Nat} (hp:π[p]?=some j):Si π j=p∧j<ops.length∧∀ o,ops[j]?=some o->(∀ e∈o.after,e.on<ops.length)∧∀ i b,o.guard=some (i,b)->i∈π:=by
 have hl:p<π.length:=(List.getElem?_eq_some_iff.1 hp).1
 have:=List.all_eq_true.1 h p (List.mem_range.2 hl)
 simp only[hp,Bool.and_eq_true,decide_eq_true_eq] at this
 obtain⟨⟨h1,h2⟩,h4⟩:=this
 refine⟨h1,h2,fun o ho=>?_⟩
 rw[ho] at h4
 simp only[Bool.and_eq_true] at h4
 refine⟨fun e he=>by simpa using List.all_eq_true.1 h4.1 e (by simpa using he),fun i b hg=>?_⟩
 have:=h4.2
 rw[hg] at this;simpa using this
theorem Mo {j:Nat} (h:j∈π):π[Si π j]?=some j:=by
 unfold Si
 have:=List.idxOf_lt_length_of_mem h
 rw[List.getElem?_eq_getElem this,List.getElem_idxOf]
theorem Qg {p j:Nat} {o:Oper} (hp:π[p]?=some j) (ho:ops[j]?=some o):(Cv π ops)[p]?=some (Pg π o):=by
 unfold Cv
 rw[List.getElem?_map,hp]
 simp[List.getD_eq_getElem?_getD,ho]
theorem Afx (h:Lx π ops=true) {p j:Nat} {o:Oper} (hp:π[p]?=some j) (ho:ops[j]?=some o) (tmps:Array Value):Region.wanted (Pg π o) (yielded (Cv π ops).toArray tmps)=Region.wanted o (yielded ops.toArray tmps):=by
 obtain⟨_,hg⟩:=(Eg h hp).2.2 o ho
 unfold Region.wanted
 cases hgd:o.guard with
 | none=>simp[Pg,hgd]
 | some g=>
  obtain⟨i,b⟩:=g
  have hi:=Mo (hg i b hgd)
  have hil:=(Eg h hi).2.1
  have:=Qg hi (List.getElem?_eq_getElem hil)
  simp[Pg,hgd,yielded,this,hil]
theorem Asb (π:List Nat) (o:Oper) (a:Act) (w:World) (K:Act->World->Prop):(Pg π o).wp P a w K Q=o.wp P a w K Q:=by
 have e:execOp a.eval (Pg π o)=execOp a.eval o:=rfl
 unfold Oper.wp
 rw[e]
 generalize (execOp a.eval o).run P w=r
 cases r with
 | ok n w'=>cases n <;> rfl
 | halt x w'=>cases x <;> rfl
theorem Aoi (π:List Nat) (o:Oper) (a:Act) (w:World):(Pg π o).asks P a w=o.asks P a w:=rfl
theorem Anl (h:Lx π ops=true) {p j:Nat} {o:Oper} (hp:π[p]?=some j) (ho:ops[j]?=some o) {a:Act} {w:World} {K:Act->World->Prop} (hh:wpOp P (Cv π ops).toArray Q p K a w):wpOp P ops.toArray Q j K a w:=by
 unfold wpOp at *
 have e:=Qg hp ho
 simp only[List.getElem?_toArray,e] at hh
 simp only[List.getElem?_toArray,ho]
 rw[Afx h hp ho,Asb,Aoi] at hh
 exact hh
theorem Ajt {o:Oper} {e:Edge}:e∈(Pg π o).after↔∃ e',e'∈o.after∧e'.on∈π∧e={ e' with on:=Si π e'.on }:=by
 simp only[Pg,List.mem_toArray,List.mem_filterMap,Array.mem_toList_iff]
 constructor
 ·rintro⟨e',h1,h2⟩
  by_cases hc:e'.on∈π
  ·rw[if_pos (by simpa using hc)] at h2;exact⟨e',h1,hc,by cases h2;rfl⟩
  ·rw[if_neg (by simpa using hc)] at h2;cases h2
 ·rintro⟨e',h1,h2,rfl⟩
  exact⟨e',h1,by rw[if_pos (by simpa using h2)]⟩
def Aon (π:List Nat) (n:Nat) (l l':Array Bool):Prop:=l.size=n∧l'.size=π.length∧(∀ (p j:Nat),π[p]?=some j->l[j]?=l'[p]?)∧∀ (i:Nat),i<n->i∉π->l[i]?=some true
theorem Sd (h:Lx π ops=true) {l l':Array Bool} (hs:Aon π ops.length l l') {p j:Nat} (hp:π[p]?=some j):j∈Region.ready .any ops.toArray l↔p∈Region.ready .any (Cv π ops).toArray l':=by
 obtain⟨_,hj,hsp⟩:=Eg h hp
 have hoi:ops[j]?=some ops[j]:=List.getElem?_eq_getElem hj
 have e:=Qg hp hoi
 obtain⟨hed,_⟩:=hsp _ hoi
 have hg:l.getD j true=l'.getD p true:=by simp[Array.getD_eq_getD_getElem?,hs.2.2.1 p j hp]
 rw[mem_ready,mem_ready,hg]
 simp only[List.getElem?_toArray,hoi,e,Option.some.injEq,exists_eq_left']
 refine and_congr_right fun _=>⟨fun ha e' he' hb=>?_,fun ha e' he' hb=>?_⟩
 ·obtain⟨e0,h1,h2,rfl⟩:=Ajt.1 he'
  have:=ha e0 h1 hb
  have hq:=hs.2.2.1 _ _ (Mo h2)
  simpa [Array.getD_eq_getD_getElem?,hq] using this
 ·by_cases hc:e'.on∈π
  ·have:=ha _ (Ajt.2 ⟨e',he',hc,rfl⟩) hb
   have hq:=hs.2.2.1 _ _ (Mo hc)
   simpa [Array.getD_eq_getD_getElem?,hq] using this
  ·simp[Array.getD_eq_getD_getElem?,hs.2.2.2 _ (hed e' he') hc]
theorem Zv {l l':Array Bool} (hs:Aon π ops.length l l') {i:Nat} (hi:i∈Region.ready .any ops.toArray l):∃ p:Nat,π[p]?=some i:=by
 obtain⟨h0,o,ho,_⟩:=mem_ready.1 hi
 have hil:i<ops.length:=by simpa using (Array.getElem?_eq_some_iff.1 ho).1
 by_cases hc:i∈π
 ·exact⟨_,Mo hc⟩
 ·have:=hs.2.2.2 i hil hc
  simp[Array.getD_eq_getD_getElem?,this] at h0
theorem Xf (h:Lx π ops=true):∀ (fuel:Nat) (l l':Array Bool) (a:Act) (w:World),Aon π ops.length l l'->wpAny P .any (Cv π ops).toArray Q fuel l' a w->wpAny P .any ops.toArray Q fuel l a w:=by
 have Aep:∀ (l l':Array Bool),Aon π ops.length l l'->Region.ready .any ops.toArray l=[]->Region.ready .any (Cv π ops).toArray l'=[]:=by
  intro l l' hs hr
  rw[List.eq_nil_iff_forall_not_mem]
  intro p hp
  have hpl:p<π.length:=by
   obtain⟨_,o,ho,_⟩:=mem_ready.1 hp
   have:=(Array.getElem?_eq_some_iff.1 ho).1
   simpa [Cv] using this
  have:=(Sd h hs (List.getElem?_eq_getElem hpl)).2 hp
  rw[hr] at this;cases this
 intro fuel
 induction fuel with
 | zero=>
  intro l l' a w hs hw
  refine⟨?_,hw.2⟩
  rw[List.eq_nil_iff_forall_not_mem]
  intro i hi
  obtain⟨p,hp⟩:=Zv hs hi
  have:=(Sd h hs hp).1 hi
  rw[hw.1] at this;cases this
 | succ fuel ih=>
  intro l l' a w hs hw
  refine⟨fun hr=>hw.1 (Aep l l' hs hr),fun i hi=>?_⟩
  obtain⟨p,hp⟩:=Zv hs hi
  obtain⟨hpo,hil,_⟩:=Eg h hp
  refine Anl h hp (List.getElem?_eq_getElem hil) (wpOp_mono (fun a' w' h'=>ih _ _ a' w' ?_ h') (hw.2 _ ((Sd h hs hp).1 hi)))
  have hpl:p<π.length:=(List.getElem?_eq_some_iff.1 hp).1
  refine⟨by simp[hs.1],by simp[hs.2.1],fun q k hq=>?_,fun k hk hn=>?_⟩
  ·by_cases hki:i=k
   ·subst hki
    have hqp:q=p:=by rw[<-(Eg h hq).1,hpo]
    subst hqp
    simp[hs.1,hs.2.1,hil,hpl]
   ·have hne:p≠q:=fun e=>by subst e;rw[hp] at hq;cases hq;exact hki rfl
    rw[Array.getElem?_setIfInBounds_ne hki,Array.getElem?_setIfInBounds_ne hne];exact hs.2.2.1 q k hq
  ·by_cases hki:i=k
   ·subst hki;simp[hs.1,hil]
   ·rw[Array.getElem?_setIfInBounds_ne hki];exact hs.2.2.2 k hk hn
theorem Aoz {w0:World} {a0:Act} {l:Array Bool} (π:List Nat) (n:Nat) (hp:Lx π ops=true) (hs:(decide (l.size=ops.length)&&(List.range ops.length).all fun i=>l[i]?==some (!π.contains i))=true)
  (hok:okM a0.tmps.size 0 ((Cv π ops).take n) []=true) (hot:(decide (n<(Cv π ops).length)&&okT n (Cv π ops))=true) (h:Al P (Cv π ops) n w0 a0 Q ((Cv π ops).take n) []):wpAny P .any ops.toArray Q π.length l a0 w0:=by
 rw[Bool.and_eq_true,decide_eq_true_iff] at hot hs
 obtain⟨Gs,h1,h2,h3⟩:=Pj.all (Fs:=[]) h.fore [] rfl (by simp) (fun i o F hi=>by simp at hi)
 have hl:(Cv π ops).length=π.length:=by simp[Cv]
 have hu:Bh (Array.replicate (Cv π ops).length false)=(Cv π ops).length:=by simp[Bh,List.countP_replicate]
 have:=Lm (Q:=Q) hot.1 hok hot.2 h1 h2 h3 (Cv π ops).length (Array.replicate (Cv π ops).length false) a0 w0
  ⟨Below.refl _ w0,rfl,rfl,by simp[List.length_take];omega,fun _ _=>rfl,fun j oj d G hj=>by simp[Array.getElem?_replicate] at hj,fun j oj i hj=>by simp[Array.getElem?_replicate] at hj,fun j oj d _ _ _=>rfl⟩ (by simp) (fun j _ hj=>by simp[hj]) hu
 rw[hl] at this
 refine Xf hp _ _ _ _ _ ⟨hs.1,by simp,fun p j hpj=>?_,fun i hi hn=>?_⟩ this
 ·have hpl:p<π.length:=(List.getElem?_eq_some_iff.1 hpj).1
  have hjl:=(Eg hp hpj).2.1
  have h5:=List.all_eq_true.1 hs.2 j (List.mem_range.2 hjl)
  have hm:j∈π:=List.mem_of_getElem? hpj
  simp[hm] at h5
  rw[h5];simp[hpl]
 ·have h5:=List.all_eq_true.1 hs.2 i (List.mem_range.2 hi)
  simp[hn] at h5
  exact h5
theorem Ap {i fuel:Nat} {listed:Array Bool} {a:Act} {w:World} {oi:Oper} {v:Value} (hi:ops[i]?=some oi) (hg:oi.guard=none) (hc:(Region.noSelect ops.toArray&&(Region.free .any ops.toArray listed i&&(Region.ready .any ops.toArray listed).contains i))=true)
  (hQ:∀ c a w,Q (.panic c) (a.put oi.dst v) w->Q (.panic c) a w) (hv:∀ w,(execOp a.eval oi).run P w = .ok (.value v) w) (h:wpAny P .any ops.toArray Q fuel (listed.setIfInBounds i true) (a.put oi.dst v) w):wpAny P .any ops.toArray Q (fuel+1) listed a w:=by
 simp only[Bool.and_eq_true] at hc
 exact wpAny_take (by simpa using hi) hc.1 hc.2.1 hc.2.2 hQ (.inl ⟨by simp[Region.wanted,hg],hv⟩) h
theorem Tc {ops:Array Oper} {rest:List Oper} {o:Oper} {a:Act} {w:World} {x:Operand} {v:Value} (hg:o.guard=none) (ho:o.op = .assign x) (hx:a.eval x=v) (h:wpList P ops Q rest (a.put o.dst v) w):wpList P ops Q (o::rest) a w:=by
 refine wpList_plain hg fun K hK=>?_
 have e:(execOp a.eval o).run P w = .ok (.value v) w:=by
  generalize a.eval=ρ at hx
  simp[execOp,ho,hx]
 unfold Oper.wp
 rw[e]
 exact hK _ _ h
end
def Bm (d:Dot):Bool:=decide (1<=d.1∧d.1<=65535∧1<=d.2∧d.2<=4294967295)
def Bp (a b:Dot):Bool:=if a.2=b.2 then decide (a.1<b.1) else decide (a.2<b.2)
theorem Hp {d:Dot}:Bm d=true↔1<=d.1∧d.1<=65535∧1<=d.2∧d.2<=4294967295:=by unfold Bm;exact decide_eq_true_iff
theorem Dj {a b:Dot}:Bp a b=true↔a.2<b.2∨(a.2=b.2∧a.1<b.1):=by unfold Bp;split <;> simp <;> omega
def Ee (a b:Int):Int:=if a<b then -1 else if b<a then 1 else 0
def Gv (a b:Dot):Int:=if Ee a.2 b.2=0 then Ee a.1 b.1 else Ee a.2 b.2
theorem Ko {a b:Dot}:Gv a b<0↔Bp a b=true:=by
 rw[Dj];unfold Gv Ee
 split <;> split <;> (try split) <;> omega
theorem Ay {w w':World} {b b':Bool} (e:b=b') (hb:Below w.heap.size w w'):Ret w (IsB b') (.returned (.bool b)) w':=⟨_,rfl,hb,by rw[e];rfl⟩
theorem Gz {w w':World} {b b':Int} (e:b=b') (hb:Below w.heap.size w w'):Ret w (IsI b') (.returned (.int .i64 b)) w':=⟨_,rfl,hb,by rw[e];rfl⟩
theorem Lw (x y:Int) (w:World):Calls Tryz.prog 162 #[.agg #[.int .i64 x,.int .i64 y]] w (Ret w (IsB (Bm (x,y)))):=by
 go_enter Tryz.func162,Tryz.ntmps162
 go_wp2
 all_goals
  go_ret
  exact Ay (by rw[Bool.eq_iff_iff];simp[Bm];try omega) (by go_grown)
theorem Ge (a b:Int) (w:World):Calls Tryz.prog 398 #[.int .i64 a,.int .i64 b] w fun e w'=>e = .returned (.int .i64 (Ee a b))∧w=w':=by
 go_enter Tryz.func398,Tryz.ntmps398
 go_wp2
 all_goals
  go_ret
  exact⟨by rw[Ee];simp only[*];simp <;> omega,rfl⟩
def orI (x y:Int):Int:=if x=0 then y else x
theorem Ate (x y:Int) (b:Nat) (w:World) (h1:w.cell? ⟨b,0,none⟩=some (.int .i64 x)) (h2:w.cell? ⟨b,1,none⟩=some (.int .i64 y)) :
  Calls Tryz.prog 396 #[.slice (some ⟨b,0,none⟩) 2 2] w fun e w'=>e = .returned (.int .i64 (orI x y))∧w=w':=by
 by_cases hx:x=0
 ·subst hx
  by_cases hy:y=0
  ·subst hy
   go_enter Tryz.func396,Tryz.ntmps396
   go_wp2
   go_rounds 3
   go_ret
   exact⟨rfl,rfl⟩
  ·have hne:(y != 0)=true:=by simpa using hy
   go_enter Tryz.func396,Tryz.ntmps396
   go_wp2
   go_rounds 3
   go_ret
   exact⟨rfl,rfl⟩
 ·have hne:(x != 0)=true:=by simpa using hx
  go_enter Tryz.func396,Tryz.ntmps396
  go_wp2
  go_rounds 3
  go_ret
  exact⟨by simp[orI,hx],rfl⟩
theorem Adl (a b:Dot):orI (Ee a.2 b.2) (Ee a.1 b.1)=Gv a b:=rfl
theorem Yy (a b x y:Int) (w:World):Calls Tryz.prog 353 #[.agg #[.int .i64 a,.int .i64 b],.agg #[.int .i64 x,.int .i64 y]] w (Ret w (IsI (Gv (a,b) (x,y)))):=by
 have e:=Adl (a,b) (x,y)
 generalize Gv (a,b) (x,y)=r at *
 generalize hp:Ee (a,b).2 (x,y).2=p at *
 generalize hq:Ee (a,b).1 (x,y).1=q at *
 have E:=Avp e;clear e
 have c1:=fun w=>Ge b y w
 have c2:=fun w=>Ge a x w
 simp only at hp hq
 rw[hp] at c1;rw[hq] at c2
 clear hp hq
 go_enter Tryz.func353,Tryz.ntmps353
 go_wp2_with fail
 go_region_held3 (fun w'=>w'.cell? ⟨w.heap.size,0,none⟩=some (.int .i64 a)∧w'.cell? ⟨w.heap.size,1,none⟩=some (.int .i64 b)∧w'.cell? ⟨w.heap.size+1,0,none⟩=some (.int .i64 x)∧w'.cell? ⟨w.heap.size+1,1,none⟩=some (.int .i64 y)) (simp[go_sem,World.cell?_alloc_past])
  (first
   | (go_at_call 398;((with_reducible refine(c1 _).mono ?_);rintro e w' ⟨rfl,rfl⟩))
   | (go_at_call 398;((with_reducible refine(c2 _).mono ?_);rintro e w' ⟨rfl,rfl⟩))
   | (go_at_call 396;((with_reducible refine(Ate p q _ _ (by simp[go_sem]) (by simp[go_sem])).mono ?_);rintro e w' ⟨rfl,rfl⟩)))
 go_wp2
 go_ret
 rw[E.out]
 exact Gz rfl (by go_grown)
def Ea:List Dot->Bool
 | a::b::t=>Bp a b&&Ea (b::t)
 | _=>true
theorem Yn {l:List Dot} (h:l.length<=1):Ea l=true:=by
 match l,h with
 | [],_=>rfl
 | [a],_=>rfl
def Wi (w:World) (n:Nat) (l:List Dot) (i:Value) (wr:World):Prop:=
 ∃ k:Nat,i = .int .i64 (k+1:Nat)∧(k<n∨k=0)∧Below w.heap.size w wr∧Ea l=Ea (l.drop k)
theorem Wi.next {w wr w1:World} {n k:Nat} {l:List Dot} (hb:Below w.heap.size w wr) (hb1:Below wr.heap.size wr w1) (hk:k+1<n) {a b:Dot} {t:List Dot} (h1:l.drop k=a::l.drop (k+1)) (h2:l.drop (k+1)=b::t)
  (hs:Ea l=Ea (l.drop k)) (hl:Bp a b=true):Wi w n l (.int .i64 ((k:Int)+1+1)) w1:=
 ⟨k+1,by simp,.inl hk,hb.le hb1,by rw[hs,h1,h2,Ea,hl,Bool.true_and]⟩
theorem Aqr {l:List Dot} {k:Nat} {a b:Dot} {t:List Dot} (h1:l.drop k=a::l.drop (k+1)) (h2:l.drop (k+1)=b::t) (hs:Ea l=Ea (l.drop k)) (hl:Bp a b=false):Ea l=false:=by
 rw[hs,h1,h2,Ea,hl,Bool.false_and]
def Bi (p:Dot->Bool):Nat->List Dot->Int
 | _,[]=>-1
 | k,a::t=>if p a then k else Bi p (k+1) t
theorem H7 (p:Dot->Bool):∀ (l:List Dot) (k:Nat),decide (0<=Bi p k l)=l.any p
 | [],_=>rfl
 | a::t,k=>by
  simp only[Bi,List.any_cons]
  by_cases h:p a=true
  ·simp[h]
  ·simpa [h] using H7 p t (k+1)
theorem Q9 (p:Dot->Bool):∀ (l:List Dot) (k:Nat),-1<=Bi p k l∧Bi p k l<k+l.length
 | [],k=>by simp[Bi];omega
 | a::t,k=>by
  have:=Q9 p t (k+1)
  simp only[Bi]
  split <;> simp <;> omega
def Xz (w:World) (g:Nat) (cb:Array Value) (l:List Dot) (p:Dot->Bool):Prop:=
 ∀ w',Below w.heap.size w w'->∀ x y,(x,y)∈l->Calls Tryz.prog g (#[.agg #[.int .i64 x,.int .i64 y]]++cb) w' (Ret w' (IsB (p (x,y))))
def J2 (w:World) (n:Nat) (l:List Dot) (p:Dot->Bool) (i:Value) (wr:World):Prop:=
 ∃ k:Nat,i = .int .i64 k∧k<=n∧Below w.heap.size w wr∧Bi p 0 l=Bi p k (l.drop k)
theorem J2.next {w wr w1:World} {n k:Nat} {l:List Dot} {p:Dot->Bool} (hb:Below w.heap.size w wr) (hb1:Below wr.heap.size wr w1) (hk:k<n) {a:Dot} (h1:l.drop k=a::l.drop (k+1))
  (hs:Bi p 0 l=Bi p k (l.drop k)) (hl:p a=false):J2 w n l p (.int .i64 ((k:Int)+1)) w1:=
 ⟨k+1,by simp,hk,hb.le hb1,by rw[hs,h1,Bi,hl];rfl⟩
theorem Tg (g:Nat) (cb:Array Value) (p:Dot->Bool) (A:Option Addr) (n c:Nat) (l:List Dot) (w:World) (h:Bc w A n c l)
  (eg:∀ args w,(callFunc g args).run Tryz.prog w = .ok (.enter g args) w) (hp:Xz w g cb l p) :
  Calls Tryz.prog 388 #[.slice A n c,.func (.func g) #[] cb] w (Ret w (IsI (Bi p 0 l))):=by
 have hn:=h.big
 have HP:=Avp hp;clear hp
 go_enter Tryz.func388,Tryz.ntmps388
 go_wp2
 go_loopw [8] (fun i wr=>J2 w n l p i wr) (fun i _=>n - (intOf i).toNat)
 case atStart=>exact⟨0,rfl,by omega,Below.refl _ _,by simp⟩
 case round=>
  obtain⟨k,rfl,hk,hb,hs⟩:=hrel
  by_cases hlt:k<n
  ·obtain⟨b,o,x,y,rfl,hbk,hm,d1,c1,c2⟩:=(h.mono hb).at_ (k:=k) hlt
   have D1:=Avp d1;have HS:=Avp hs
   have HM:=Avp (List.mem_of_getElem? hm)
   clear d1 hs hm
   cases hl:p (x,y) with
   | true=>
    have cp:=HP.out _ hb x y HM.out
    rw[hl] at cp
    have CP:=Avp cp;have HL:=Avp hl;clear hl cp
    go_wp2_with (first | ((with_reducible refine CP.out.mono ?_);rintro e w1 ⟨_,rfl,hb1,rfl⟩))
    go_ret
    exact⟨_,rfl,hb.le hb1,by rw[HS.out,D1.out,Bi,HL.out];rfl⟩
   | false=>
    have cp:=HP.out _ hb x y HM.out
    rw[hl] at cp
    have CP:=Avp cp;have HL:=Avp hl;clear hl cp
    go_wp2_with (first | ((with_reducible refine CP.out.mono ?_);rintro e w1 ⟨_,rfl,hb1,rfl⟩))
    go_roundw
    case rel=>exact J2.next hb hb1 hlt D1.out HS.out HL.out
    case measure=>simp[intOf];omega
  ·have HS:=Avp hs;clear hs
   go_wp2
   go_ret
   exact⟨_,rfl,hb,by rw[HS.out,List.drop_of_length_le (by rw[<-h.len];omega)];rfl⟩
theorem N9 (g:Nat) (cb:Array Value) (p:Dot->Bool) (A:Option Addr) (n c:Nat) (l:List Dot) (w:World) (h:Bc w A n c l)
  (eg:∀ args w,(callFunc g args).run Tryz.prog w = .ok (.enter g args) w) (hp:Xz w g cb l p) :
  Calls Tryz.prog 392 #[.slice A n c,.func (.func g) #[] cb] w (Ret w (IsI (Bi p 0 l))):=by
 have hn:=h.big
 have HP:=Avp hp;clear hp
 go_enter Tryz.func392,Tryz.ntmps392
 go_wp2
 go_loopw [8] (fun i wr=>J2 w n l p i wr) (fun i _=>n - (intOf i).toNat)
 case atStart=>exact⟨0,rfl,by omega,Below.refl _ _,by simp⟩
 case round=>
  obtain⟨k,rfl,hk,hb,hs⟩:=hrel
  by_cases hlt:k<n
  ·obtain⟨b,o,x,y,rfl,hbk,hm,d1,c1,c2⟩:=(h.mono hb).at_ (k:=k) hlt
   have D1:=Avp d1;have HS:=Avp hs
   have HM:=Avp (List.mem_of_getElem? hm)
   clear d1 hs hm
   cases hl:p (x,y) with
   | true=>
    have cp:=HP.out _ hb x y HM.out
    rw[hl] at cp
    have CP:=Avp cp;have HL:=Avp hl;clear hl cp
    go_wp2_with (first | ((with_reducible refine CP.out.mono ?_);rintro e w1 ⟨_,rfl,hb1,rfl⟩))
    go_ret
    exact⟨_,rfl,hb.le hb1,by rw[HS.out,D1.out,Bi,HL.out];rfl⟩
   | false=>
    have cp:=HP.out _ hb x y HM.out
    rw[hl] at cp
    have CP:=Avp cp;have HL:=Avp hl;clear hl cp
    go_wp2_with (first | ((with_reducible refine CP.out.mono ?_);rintro e w1 ⟨_,rfl,hb1,rfl⟩))
    go_roundw
    case rel=>exact J2.next hb hb1 hlt D1.out HS.out HL.out
    case measure=>simp[intOf];omega
  ·have HS:=Avp hs;clear hs
   go_wp2
   go_ret
   exact⟨_,rfl,hb,by rw[HS.out,List.drop_of_length_le (by rw[<-h.len];omega)];rfl⟩
theorem Afh:∀ args w,(callFunc 429 args).run Tryz.prog w = .ok (.enter 429 args) w:=enters_of Tryz.func429 (by kernel_rfl) rfl
theorem Ael:∀ args w,(callFunc 428 args).run Tryz.prog w = .ok (.enter 428 args) w:=enters_of Tryz.func428 (by kernel_rfl) rfl
theorem Agj:∀ args w,(callFunc 389 args).run Tryz.prog w = .ok (.enter 389 args) w:=enters_of Tryz.func389 (by kernel_rfl) rfl
theorem Aez:∀ args w,(callFunc 325 args).run Tryz.prog w = .ok (.enter 325 args) w:=enters_of Tryz.func325 (by kernel_rfl) rfl
theorem Zr (x y:Int) (w:World):Calls Tryz.prog 429 #[.agg #[.int .i64 x,.int .i64 y]] w (Ret w (IsB (!Bm (x,y)))):=by
 have c:=Lw x y
 generalize Bm (x,y)=v at *
 go_enter Tryz.func429,Tryz.ntmps429
 go_wp2_with (go_at_call 162;((with_reducible refine(c _).mono ?_);rintro e w1 ⟨_,rfl,hb1,rfl⟩))
 go_ret
 exact Ay rfl (((Below.refl _ _).alloc (Nat.le_refl _) _).le hb1)
theorem Am8 (l:List Dot) (w:World):Xz w 429 #[] l (fun d=>!Bm d):=fun _ _ x y _=>Zr x y _
theorem Zg (x y:Int) (w:World):Calls Tryz.prog 428 #[.agg #[.int .i64 x,.int .i64 y]] w (Ret w (IsB (!Bm (x,y)))):=by
 have c:=Lw x y
 generalize Bm (x,y)=v at *
 go_enter Tryz.func428,Tryz.ntmps428
 go_wp2_with (go_at_call 162;((with_reducible refine(c _).mono ?_);rintro e w1 ⟨_,rfl,hb1,rfl⟩))
 go_ret
 exact Ay rfl (((Below.refl _ _).alloc (Nat.le_refl _) _).le hb1)
theorem Ao0 (l:List Dot) (w:World):Xz w 428 #[] l (fun d=>!Bm d):=fun _ _ x y _=>Zg x y _
def Ax (l:List Dot):Bool:=l.all Bm
theorem Acp (l:List Dot):(!l.any fun d=>!Bm d)=Ax l:=by unfold Ax;induction l with | nil=>rfl | cons a t ih=>simp[<-ih]
theorem Vp (g:Nat) (cb:Array Value) (p:Dot->Bool) (A:Option Addr) (n c:Nat) (l:List Dot) (w:World) (h:Bc w A n c l)
  (eg:∀ args w,(callFunc g args).run Tryz.prog w = .ok (.enter g args) w) (hp:Xz w g cb l p) :
  Calls Tryz.prog 427 #[.slice A n c,.func (.func g) #[] cb] w (Ret w (IsB (l.any p))):=by
 have C:=Avp (Tg g cb p A n c l w h eg hp)
 have hx:=H7 p l 0
 generalize Bi p 0 l=i at *
 generalize l.any p=r at *
 have HX:=Avp hx
 clear hx hp h eg
 go_enter Tryz.func427,Tryz.ntmps427
 go_wp2_with (go_at_call 388;((with_reducible refine C.out.mono ?_);rintro e w1 ⟨_,rfl,hb1,rfl⟩))
 go_ret
 exact Ay HX.out hb1
theorem Mm (g:Nat) (cb:Array Value) (p:Dot->Bool) (A:Option Addr) (n c:Nat) (l:List Dot) (w:World) (h:Bc w A n c l)
  (eg:∀ args w,(callFunc g args).run Tryz.prog w = .ok (.enter g args) w) (hp:Xz w g cb l p) :
  Calls Tryz.prog 328 #[.slice A n c,.func (.func g) #[] cb] w (Ret w (IsB (l.any p))):=by
 have C:=Avp (N9 g cb p A n c l w h eg hp)
 have hx:=H7 p l 0
 generalize Bi p 0 l=i at *
 generalize l.any p=r at *
 have HX:=Avp hx
 clear hx hp h eg
 go_enter Tryz.func328,Tryz.ntmps328
 go_wp2_with (go_at_call 392;((with_reducible refine C.out.mono ?_);rintro e w1 ⟨_,rfl,hb1,rfl⟩))
 go_ret
 exact Ay HX.out hb1
theorem V8 (A:Option Addr) (n c:Nat) (l:List Dot) (w:World) (h:Bc w A n c l):Calls Tryz.prog 391 #[.slice A n c] w (Ret w (IsB (Ax l))):=by
 have C:=Avp (Mm 429 #[] _ A n c l w h Afh (Am8 l w))
 rw[<-Acp l]
 generalize (l.any fun d=>!Bm d)=r at *
 clear h
 go_enter Tryz.func391,Tryz.ntmps391
 go_wp2_with (go_at_call 328;((with_reducible refine C.out.mono ?_);rintro e w1 ⟨_,rfl,hb1,rfl⟩))
 go_ret
 exact Ay rfl hb1
def By:List Dot->Int->Int
 | [],_=>0
 | a::t,r=>if a.1=r then a.2 else By t r
theorem Zq (r:Int):∀ (l:List Dot) (k:Nat) (j:Nat),Bi (fun d=>decide (d.1=r)) k l=j->∃ d,l[j - k]?=some d∧k<=j∧By l r=d.2
 | [],k,j,h=>by simp only[Bi] at h;omega
 | a::t,k,j,h=>by
  simp only[Bi] at h
  by_cases ha:a.1=r
  ·simp[ha] at h
   obtain rfl:k=j:=Int.ofNat.inj h
   exact⟨a,by simp,Nat.le_refl _,by simp[By,ha]⟩
  ·simp[ha] at h
   obtain⟨d,h1,h2,h3⟩:=Zq r t (k+1) j h
   refine⟨d,?_,by omega,by simp[By,ha,h3]⟩
   obtain⟨m,rfl⟩:∃ m,j=k+1+m:=⟨j - (k+1),by omega⟩
   rw[show k+1+m - k=m+1 by omega]
   simpa using h1
theorem Uf (r:Int):∀ (l:List Dot) (k:Nat),Bi (fun d=>decide (d.1=r)) k l<0->By l r=0
 | [],_,_=>rfl
 | a::t,k,h=>by
  simp only[Bi] at h
  by_cases ha:a.1=r
  ·simp[ha] at h;exact absurd h (by omega)
  ·simp[ha] at h
   simp[By,ha,Uf r t (k+1) h]
theorem Anp (r:Int) (b:Nat) (l:List Dot) (w:World) (hb:b<w.heap.size) (hc:w.cell? ⟨b,0,none⟩=some (.int .i64 r)):Xz w 389 #[.pointer (some ⟨b,0,none⟩)] l (fun d=>decide (d.1=r)):=by
 intro w' hw x y _
 have h1:w'.cell? ⟨b,0,none⟩=some (.int .i64 r):=(hw.cell (p:=⟨b,0,none⟩) hb).trans hc
 have hlt:b<w'.heap.size:=Nat.lt_of_lt_of_le hb hw.size
 have e:decide (x=r)=(x==r):=by rw[Bool.eq_iff_iff];simp
 show Calls Tryz.prog 389 #[.agg #[.int .i64 x,.int .i64 y],.pointer (some ⟨b,0,none⟩)] w' (Ret w' (IsB (decide (x=r))))
 rw[e];clear e hw hc
 go_enter Tryz.func389,Tryz.ntmps389
 go_wp2
 go_ret
 exact Ay rfl (by go_grown)
theorem Aru (A:Option Addr) (n c:Nat) (l:List Dot) (r:Int) (w:World) (h:Bc w A n c l):Calls Tryz.prog 326 #[.slice A n c,.int .i64 r] w (Ret w (IsI (By l r))):=by
 have hn:=h.big
 have hb0:Below w.heap.size w (w.alloc (.cells #[.int .i64 r] 3)):=(Below.refl _ _).alloc (Nat.le_refl _) _
 have C:=Avp (Tg 389 #[.pointer (some ⟨w.heap.size,0,none⟩)] _ A n c l (w.alloc (.cells #[.int .i64 r] 3)) (h.mono hb0) Agj (Anp r w.heap.size l _ (by simp) (by simp[go_sem])))
 have hbd:=Q9 (fun d=>decide (d.1=r)) l 0
 by_cases hi:Bi (fun d=>decide (d.1=r)) 0 l<0
 ·have H0:=Avp (Uf r l 0 hi)
  generalize Bi (fun d=>decide (d.1=r)) 0 l=i at *
  clear h hbd
  go_enter Tryz.func326,Tryz.ntmps326
  go_wp2_with (go_at_call 388;((with_reducible refine C.out.mono ?_);rintro e w1 ⟨_,rfl,hb1,rfl⟩))
  go_ret
  exact Gz H0.out.symm (hb0.le hb1)
 ·obtain⟨j,hj⟩:∃ j:Nat,Bi (fun d=>decide (d.1=r)) 0 l=j:=⟨(Bi (fun d=>decide (d.1=r)) 0 l).toNat,by omega⟩
  rw[hj] at C hbd
  obtain⟨⟨x,y⟩,h1,_,h3⟩:=Zq r l 0 j hj
  obtain⟨b,o,rfl,hlt,c1,c2⟩:=h.cell _ _ h1
  have hjn:j<n:=by have:=h.len;omega
  have H1:=Avp h1;have H3:=Avp h3;have HJ:=Avp hj;have HL:=Avp hlt;have C2:=Avp c2
  clear h h1 h3 hj hi hbd c1 hlt c2
  go_enter Tryz.func326,Tryz.ntmps326
  go_wp2_with (go_at_call 388;((with_reducible refine C.out.mono ?_);rintro e w1 ⟨_,rfl,hb1,rfl⟩;have c3:w1.cell? ⟨b,o+j*2+1,none⟩=some (.int .i64 y):=((hb0.le hb1).cell (p:=⟨b,_,none⟩) HL.out).trans C2.out))
  go_ret
  exact Gz H3.out.symm (hb0.le hb1)
def Vo (d:Dot) (l:List Dot):Bool:=l.any fun a=>deq d a
theorem Yi {d:Dot} {l:List Dot}:Vo d l=true↔d∈l:=by
 unfold Vo;rw[List.any_eq_true]
 constructor
 ·rintro⟨a,ha,h⟩;rw[Mw.1 h];exact ha
 ·intro h;exact⟨d,h,Mw.2 rfl⟩
theorem Amv (x y:Int) (A:Option Addr) (n c:Nat) (l:List Dot) (w:World) (h:Bc w A n c l) :
  Calls Tryz.prog 448 #[.slice A n c,.agg #[.int .i64 x,.int .i64 y]] w (Ret w (IsI (Bi (fun a=>deq (x,y) a) 0 l))):=by
 have hn:=h.big
 have hb0:Below w.heap.size w (w.alloc (.cells #[.int .i64 x,.int .i64 y] 224)):=(Below.refl _ _).alloc (Nat.le_refl _) _
 go_enter Tryz.func448,Tryz.ntmps448
 go_wp2
 go_loopw [8] (fun i wr=>J2 (w.alloc (.cells #[.int .i64 x,.int .i64 y] 224)) n l (fun a=>deq (x,y) a) i wr) (fun i _=>n - (intOf i).toNat)
 case atStart=>exact⟨0,rfl,by omega,Below.refl _ _,by simp⟩
 case round=>
  obtain⟨k,rfl,hk,hb,hs⟩:=hrel
  have b1:wr.cell? ⟨w.heap.size,0,none⟩=some (.int .i64 x):=(hb.cell (p:=⟨w.heap.size,0,none⟩) (by simp)).trans (by simp[go_sem])
  have b2:wr.cell? ⟨w.heap.size,1,none⟩=some (.int .i64 y):=(hb.cell (p:=⟨w.heap.size,1,none⟩) (by simp)).trans (by simp[go_sem])
  by_cases hlt:k<n
  ·obtain⟨b,o,u,v,rfl,hbk,-,d1,c1,c2⟩:=(h.mono (hb0.le hb)).at_ (k:=k) hlt
   have D1:=Avp d1;have HS:=Avp hs
   clear d1 hs
   cases hl:deq (x,y) (u,v) with
   | true=>
    have HL:=Avp hl
    go_wp2
    go_quiet (fail)
    go_wp2
    go_ret
    exact⟨_,rfl,(hb0.le hb).drewN' _,by rw[HS.out,D1.out,Bi,HL.out];rfl⟩
   | false=>
    have HL:=Avp hl
    go_wp2
    go_quiet (fail)
    go_wp2
    go_roundw
    case rel=>exact J2.next (hb.drewN' _) (Below.refl _ _) hlt D1.out HS.out HL.out
    case measure=>simp[intOf];omega
  ·have HS:=Avp hs;clear hs
   go_wp2
   go_ret
   exact⟨_,rfl,hb0.le hb,by rw[HS.out,List.drop_of_length_le (by rw[<-h.len];omega)];rfl⟩
theorem Z9 (x y:Int) (A:Option Addr) (n c:Nat) (l:List Dot) (w:World) (h:Bc w A n c l) :
  Calls Tryz.prog 415 #[.slice A n c,.agg #[.int .i64 x,.int .i64 y]] w (Ret w (IsB (Vo (x,y) l))):=by
 have hb0:Below w.heap.size w (w.alloc (.cells #[.int .i64 x,.int .i64 y] 224)):=(Below.refl _ _).alloc (Nat.le_refl _) _
 have C:=Avp (Amv x y A n c l _ (h.mono hb0))
 have hx:=H7 (fun a=>deq (x,y) a) l 0
 unfold Vo
 generalize Bi (fun a=>deq (x,y) a) 0 l=i at *
 generalize (l.any fun a=>deq (x,y) a)=r at *
 have HX:=Avp hx
 clear hx h
 go_enter Tryz.func415,Tryz.ntmps415
 go_wp2_with (go_at_call 448;((with_reducible refine C.out.mono ?_);rintro e w1 ⟨_,rfl,hb1,rfl⟩))
 go_ret
 exact Ay HX.out (hb0.le hb1)
theorem Au6 (x y:Int) (A:Option Addr) (n c:Nat) (l:List Dot) (w:World) (h:Bc w A n c l) :
  Calls Tryz.prog 358 #[.slice A n c,.agg #[.int .i64 x,.int .i64 y]] w (Ret w (IsB (Vo (x,y) l))):=by
 have hb0:Below w.heap.size w (w.alloc (.cells #[.int .i64 x,.int .i64 y] 224)):=(Below.refl _ _).alloc (Nat.le_refl _) _
 have C:=Avp (Z9 x y A n c l _ (h.mono hb0))
 generalize Vo (x,y) l=r at *
 clear h
 go_enter Tryz.func358,Tryz.ntmps358
 go_wp2_with (go_at_call 415;((with_reducible refine C.out.mono ?_);rintro e w1 ⟨_,rfl,hb1,rfl⟩))
 go_ret
 exact Ay rfl (hb0.le hb1)
def I5 (l:List Dot) (d:Dot):Bool:=Bm d&&decide (d.2<=By l d.1)
theorem Anw {l:List Dot} {d:Dot} (h:Bm d=false):I5 l d=false:=by unfold I5;rw[h];rfl
theorem Aid {l:List Dot} {d:Dot} (h:Bm d=true):I5 l d=decide (d.2<=By l d.1):=by unfold I5;rw[h];rfl
theorem Ru:Enters Tryz.prog 162:=enters_of Tryz.func162 (by kernel_rfl) rfl
theorem Rm:Enters Tryz.prog 326:=enters_of Tryz.func326 (by kernel_rfl) rfl
theorem Alh (x y:Int) (A:Option Addr) (n c:Nat) (l:List Dot) (w:World) (h:Bc w A n c l) :
  Calls Tryz.prog 357 #[.slice A n c,.agg #[.int .i64 x,.int .i64 y]] w (Ret w (IsB (I5 l (x,y)))):=by
 have hb0:Below w.heap.size w (w.alloc (.cells #[.int .i64 x,.int .i64 y] 224)):=(Below.refl _ _).alloc (Nat.le_refl _) _
 have h0:=h.mono hb0
 have k1:(w.alloc (.cells #[.int .i64 x,.int .i64 y] 224)).cell? ⟨w.heap.size,0,none⟩=some (.int .i64 x):=by simp[go_sem]
 have k2:(w.alloc (.cells #[.int .i64 x,.int .i64 y] 224)).cell? ⟨w.heap.size,1,none⟩=some (.int .i64 y):=by simp[go_sem]
 have cv:=Lw x y
 have cg:=fun w1 h1=>Aru A n c l x w1 h1
 cases hv:Bm (x,y) with
 | false=>
  rw[hv] at cv
  rw[Anw hv]
  go_enter Tryz.func357,Tryz.ntmps357
  go_wp2_with fail
  refine Am mixed (by kernel_rfl) ?_
  refine Ab.step (Ob.loadV Aa.free Has.oldIs (fun w1 hb=>Bt hb k1 k2)) ?_
  refine Ab.step (Ob.call1V Aa.free Ru (Has.new 0 0) (fun w1 _=>cv w1)) ?_
  refine Ab.step (Ob.move Aa.free (Has.new 1 0)) ?_
  refine Ab.step (Ob.off 2 0) ?_
  refine Ab.step (Ob.off 2 1) ?_
  refine Ab.step (Ob.off 2 2) ?_
  refine Ab.step (Ob.off 2 3) ?_
  refine Ab.step (Ob.off 2 4) ?_
  refine Ab.step (Ob.off 2 5) ?_
  refine Ab.step (Ob.off 2 6) ?_
  refine Ab.step (Ob.pickF Aa.free (Has.new 2 7) (Has.cst _)) ?_
  refine Ab.step (Ob.assign Aa.free (Has.new 10 0)) ?_
  simp only[Ab,Ao,List.map,Bq,List.reverse_cons,List.reverse_nil,List.nil_append,List.cons_append]
  intro wE hE
  iterate 12 (rintro _ rfl)
  simp only[Act.put,List.setIfInBounds_toArray,List.set_cons_zero,List.set_cons_succ]
  go_wp2
  go_ret
  exact Ay rfl (hb0.le hE)
 | true=>
  rw[hv] at cv
  rw[Aid hv]
  generalize By l x=q at cg ⊢
  go_enter Tryz.func357,Tryz.ntmps357
  go_wp2_with fail
  refine Am mixed (by kernel_rfl) ?_
  refine Ab.step (Ob.loadV Aa.free Has.oldIs (fun w1 hb=>Bt hb k1 k2)) ?_
  refine Ab.step (Ob.call1V Aa.free Ru (Has.new 0 0) (fun w1 _=>cv w1)) ?_
  refine Ab.step (Ob.move Aa.free (Has.new 1 0)) ?_
  refine Ab.step (Ob.fieldV (Aa.on 2 0) Has.oldIs (fun w1=>Qe)) ?_
  refine Ab.step (Ob.loadV (Aa.on 2 1) (Has.new 3 0) (fun w1 hb=>Mi hb k2)) ?_
  refine Ab.step (Ob.move (Aa.on 2 2) Has.oldIs) ?_
  refine Ab.step (Ob.fieldV (Aa.on 2 3) Has.oldIs (fun w1=>Qv)) ?_
  refine Ab.step (Ob.loadV (Aa.on 2 4) (Has.new 6 0) (fun w1 hb=>Mi hb k1)) ?_
  refine Ab.step (Ob.call2V (Aa.on 2 5) Rm (Has.new 5 2) (Has.new 7 0) (fun w1 hb=>cg w1 (h0.mono hb))) ?_
  refine Ab.step (Ob.binV (Aa.on 2 6) (Has.new 4 4) (Has.new 8 0) (fun w1=>Acm _ rfl)) ?_
  refine Ab.step (Ob.pickT Aa.free (Has.new 2 7) (Has.new 9 0)) ?_
  refine Ab.step (Ob.assign Aa.free (Has.new 10 0)) ?_
  simp only[Ab,Ao,List.map,Bq,List.reverse_cons,List.reverse_nil,List.nil_append,List.cons_append]
  intro wE hE
  iterate 12 (rintro _ rfl)
  simp only[Act.put,List.setIfInBounds_toArray,List.set_cons_zero,List.set_cons_succ]
  go_wp2
  go_ret
  exact Ay rfl (hb0.le hE)
def Jt:List Dot->Bool
 | a::b::t=>decide (a.1<b.1)&&Jt (b::t)
 | _=>true
def Eb (l:List Dot):Bool:=Jt l&&Ax l
theorem Abf {l:List Dot} (h:l.length<=1):Jt l=true:=by
 match l,h with
 | [],_=>rfl
 | [a],_=>rfl
def Wh (w:World) (n:Nat) (l:List Dot) (i:Value) (wr:World):Prop:=
 ∃ k:Nat,i = .int .i64 (k+1:Nat)∧(k<n∨k=0)∧Below w.heap.size w wr∧Jt l=Jt (l.drop k)
theorem Wh.next {w w1 : World} {n k : Nat} {l : List Dot} (hb : Below w.heap.size w w1) (hk : k + 1 < n) {a b : Dot} {t : List Dot} (h1 : l.drop k = a :: l.drop (k + 1)) (h2 : l.drop (k + 1) = b :: t)
    (hs : Jt l = Jt (l.drop k)) (hl : a.1 < b.1) : Wh w n l (.int .i64 ((k : Int) + 1 + 1)) w1 :=
  ⟨k + 1, by simp, .inl hk, hb, by rw [hs, h1, h2, Jt]; have : decide (a.1 < b.1) = true := by simpa using hl
                                   rw [this, Bool.true_and]⟩
theorem Aqw {l:List Dot} {k:Nat} {a b:Dot} {t:List Dot} (h1:l.drop k=a::l.drop (k+1)) (h2:l.drop (k+1)=b::t) (hs:Jt l=Jt (l.drop k)) (hl:b.1<=a.1):Eb l=false:=by
 have:decide (a.1<b.1)=false:=by simpa using hl
 unfold Eb;rw[hs,h1,h2,Jt,this,Bool.false_and,Bool.false_and]
theorem Ab3 (A:Option Addr) (n c:Nat) (l:List Dot) (w:World) (h:Bc w A n c l):Calls Tryz.prog 390 #[.slice A n c] w (Ret w (IsB (Eb l))):=by
 have hn:=h.big
 go_enter Tryz.func390,Tryz.ntmps390
 go_wp2
 go_loopw [3] (fun i wr=>Wh w n l i wr) (fun i _=>n+1 - (intOf i).toNat)
 case atStart=>exact⟨0,rfl,.inr rfl,Below.refl _ _,rfl⟩
 case round=>
  obtain⟨k,rfl,hk,hb,hs⟩:=hrel
  by_cases hlt:k+1<n
  ·have hr:=h.mono hb
   obtain⟨b,o,x,y,rfl,hbk,-,d1,c1,c2⟩:=hr.at_ (k:=k) (by omega)
   obtain⟨b',o',u,v,e',-,-,d2,c3,c4⟩:=hr.at_ (k:=k+1) hlt
   obtain⟨rfl,rfl⟩:b=b'∧o=o':=by simpa using e'
   clear e'
   have ew:IntKind.i64.wrap (k:Int)=k:=IntWalk.i64_in _ (by omega)
   have g1:(k:Int)+1<n:=by omega
   have g2:(0:Int)<=(k:Int)+1:=by omega
   have g3:((k:Int)+1).toNat=k+1:=by omega
   have g4:(k:Int)<n:=by omega
   have D1:=Avp d1;have D2:=Avp d2;have HS:=Avp hs
   clear d1 d2 hs
   by_cases hl:u<=x
   ·have hd:decide (u<=x)=true:=by simpa using hl
    go_wp2
    go_quiet (fail)
    go_wp2
    go_ret
    exact Ay (Aqw D1.out D2.out HS.out hl).symm (hb.drewN' _)
   ·have hd:decide (u<=x)=false:=by simpa using hl
    go_wp2
    go_quiet (fail)
    go_wp2
    go_roundw
    case rel=>exact Wh.next (hb.drewN' _) hlt D1.out D2.out HS.out (by show x<u;omega)
    case measure=>simp[intOf];omega
  ·have e:=Abf (l:=l.drop k) (by rw[List.length_drop,<-h.len];omega)
   have HE:=Avp (hs.trans e)
   have C:=Avp (Vp 428 #[] _ A n c l wr (h.mono hb) Ael (Ao0 l wr))
   have HA:=Avp (Acp l)
   generalize (l.any fun d=>!Bm d)=r at *
   clear e hs
   go_wp2_with (go_at_call 427;((with_reducible refine C.out.mono ?_);rintro e w1 ⟨_,rfl,hb1,rfl⟩))
   go_ret
   exact Ay (by unfold Eb;rw[HE.out,HA.out];rfl) (hb.le hb1)
def Ey (l:List Dot):Nat->Option Int
 | 0=>none
 | k+1=>(l[k]?).map (·.1)
theorem Fx:Enters Tryz.prog 353:=enters_of Tryz.func353 (by kernel_rfl) rfl
abbrev Ctx:=List Dot×List Dot
def Dy (c:Ctx):Bool:=Eb c.1&&(Ea c.2&&Ax c.2)
def Kf (c:Ctx) (d:Dot):Bool:=I5 c.1 d||(Bm d&&Vo d c.2)
theorem Aho (A:Option Addr) (n c:Nat) (l:List Dot) (w:World) (h:Bc w A n c l):Calls Tryz.prog 360 #[.slice A n c] w (Ret w (IsB (Ea l))):=by
 have hn:=h.big
 go_enter Tryz.func360,Tryz.ntmps360
 go_wp2
 go_loopw [3] (fun i wr=>Wi w n l i wr) (fun i _=>n+1 - (intOf i).toNat)
 case atStart=>exact⟨0,rfl,.inr rfl,Below.refl _ _,rfl⟩
 case round=>
  obtain⟨k,rfl,hk,hb,hs⟩:=hrel
  by_cases hlt:k+1<n
  ·have hr:=h.mono hb
   obtain⟨b,o,x,y,rfl,hbk,-,d1,c1,c2⟩:=hr.at_ (k:=k) (by omega)
   obtain⟨b',o',u,v,e',-,-,d2,c3,c4⟩:=hr.at_ (k:=k+1) hlt
   obtain⟨rfl,rfl⟩:b=b'∧o=o':=by simpa using e'
   clear e'
   have D1:=Avp d1;have D2:=Avp d2;have HS:=Avp hs
   clear d1 d2 hs
   have CL:=Avp (Yy x y u v)
   have hi:k+1<=9223372036854775807:=by omega
   cases hl:Bp (x,y) (u,v) with
   | true=>
    have HL:=Avp hl;clear hl
    have hc:decide (0<=Gv (x,y) (u,v))=false:=by rw[decide_eq_false_iff_not];have:=Ko.2 HL.out;omega
    have HC:=Avp hc;clear hc
    go_wp2_with fail
    refine Am mixed (by kernel_rfl) ?_
    refine Ab.step (Ob.move Aa.free Has.oldIs) ?_
    refine Ab.step (Ob.move Aa.free Has.oldIs) ?_
    refine Ab.step (Ob.binV Aa.free (Has.new 1 0) (Has.cst _) (fun w1=>Km hi)) ?_
    refine Ab.step (Ob.indexV Aa.free (Has.new 0 2) (Has.new 2 0) (fun w1=>Cm (by omega))) ?_
    refine Ab.step (Ob.loadV Aa.free (Has.new 3 0) (fun w1 hb1=>Bt hb1 c1 c2)) ?_
    refine Ab.step (Ob.move Aa.free Has.oldIs) ?_
    refine Ab.step (Ob.move Aa.free Has.oldIs) ?_
    refine Ab.step (Ob.indexV Aa.free (Has.new 5 1) (Has.new 6 0) (fun w1=>Cm hlt)) ?_
    refine Ab.step (Ob.loadV Aa.free (Has.new 7 0) (fun w1 hb1=>Bt hb1 c3 c4)) ?_
    refine Ab.step (Ob.call2V Aa.free Fx (Has.new 4 4) (Has.new 8 0) (fun w1 _=>CL.out w1)) ?_
    refine Ab.step (Ob.binV Aa.free (Has.new 9 0) (Has.cst _) (fun w1=>Jc false HC.out)) ?_
    simp only[Ab,Ao,List.map,Bq,List.reverse_cons,List.reverse_nil,List.nil_append,List.cons_append]
    intro wE hE
    iterate 11 (rintro _ rfl)
    simp only[Act.put,List.setIfInBounds_toArray,List.set_cons_zero,List.set_cons_succ]
    go_wp2
    go_roundw
    case rel=>exact Wi.next hb hE hlt D1.out D2.out HS.out HL.out
    case measure=>simp[intOf];omega
   | false=>
    have HL:=Avp hl;clear hl
    have hc:decide (0<=Gv (x,y) (u,v))=true:=by
     rw[decide_eq_true_iff]
     by_cases h1:Gv (x,y) (u,v)<0
     ·rw[Ko,HL.out] at h1;cases h1
     ·omega
    have HC:=Avp hc;clear hc
    go_wp2_with fail
    refine Am mixed (by kernel_rfl) ?_
    refine Ab.step (Ob.move Aa.free Has.oldIs) ?_
    refine Ab.step (Ob.move Aa.free Has.oldIs) ?_
    refine Ab.step (Ob.binV Aa.free (Has.new 1 0) (Has.cst _) (fun w1=>Km hi)) ?_
    refine Ab.step (Ob.indexV Aa.free (Has.new 0 2) (Has.new 2 0) (fun w1=>Cm (by omega))) ?_
    refine Ab.step (Ob.loadV Aa.free (Has.new 3 0) (fun w1 hb1=>Bt hb1 c1 c2)) ?_
    refine Ab.step (Ob.move Aa.free Has.oldIs) ?_
    refine Ab.step (Ob.move Aa.free Has.oldIs) ?_
    refine Ab.step (Ob.indexV Aa.free (Has.new 5 1) (Has.new 6 0) (fun w1=>Cm hlt)) ?_
    refine Ab.step (Ob.loadV Aa.free (Has.new 7 0) (fun w1 hb1=>Bt hb1 c3 c4)) ?_
    refine Ab.step (Ob.call2V Aa.free Fx (Has.new 4 4) (Has.new 8 0) (fun w1 _=>CL.out w1)) ?_
    refine Ab.step (Ob.binV Aa.free (Has.new 9 0) (Has.cst _) (fun w1=>Jc true HC.out)) ?_
    simp only[Ab,Ao,List.map,Bq,List.reverse_cons,List.reverse_nil,List.nil_append,List.cons_append]
    intro wE hE
    iterate 11 (rintro _ rfl)
    simp only[Act.put,List.setIfInBounds_toArray,List.set_cons_zero,List.set_cons_succ]
    go_wp2
    go_ret
    exact Ay (Aqr D1.out D2.out HS.out HL.out).symm (hb.le hE)
  ·have e:=Yn (l:=l.drop k) (by rw[List.length_drop,<-h.len];omega)
   have HE:=Avp (hs.trans e)
   clear e hs
   go_wp2
   go_ret
   exact Ay HE.out.symm hb
structure Con (w:World) (A:Option Addr) (n ca:Nat) (B:Option Addr) (m cb:Nat) (c:Ctx):Prop where
 v:Bc w A n ca c.1
 k:Bc w B m cb c.2
theorem Con.mono {w w':World} {A B:Option Addr} {n ca m cb:Nat} {c:Ctx} (h:Con w A n ca B m cb c) (hb:Below w.heap.size w w'):Con w' A n ca B m cb c:=⟨h.v.mono hb,h.k.mono hb⟩
abbrev Ba (A:Option Addr) (n ca:Nat) (B:Option Addr) (m cb:Nat):Obj:=.cells #[.slice A n ca,.slice B m cb] 138
theorem Hc (A B:Option Addr) (n ca m cb:Nat) (c:Ctx) (w:World) (h:Con w A n ca B m cb c) :
  Calls Tryz.prog 327 #[.agg #[.slice A n ca,.slice B m cb]] w (Ret w (IsB (Dy c))):=by
 have hb0:Below w.heap.size w (w.alloc (Ba A n ca B m cb)):=(Below.refl _ _).alloc (Nat.le_refl _) _
 have h0:=h.mono hb0
 have hz:w.heap.size<(w.alloc (Ba A n ca B m cb)).heap.size:=by simp
 have f1:=fun w1 h1=>Ab3 A n ca c.1 w1 h1
 have f2:=fun w1 h1=>Aho B m cb c.2 w1 h1
 have f3:=fun w1 h1=>V8 B m cb c.2 w1 h1
 unfold Dy
 generalize Eb c.1=r1 at *
 generalize Ea c.2=r2 at *
 generalize Ax c.2=r3 at *
 have F1:=Avp f1;have F2:=Avp f2;have F3:=Avp f3;have H0:=Avp h0;have HB:=Avp hb0
 clear f1 f2 f3 h0 h hb0
 cases r1 with
 | false=>
  go_enter Tryz.func327,Tryz.ntmps327
  go_wp2_with (first
   | (go_at_call 390;((with_reducible refine(F1.out _ H0.out.v).mono ?_);rintro e w1 ⟨_,rfl,hb1,rfl⟩)))
  go_ret
  exact Ay rfl (HB.out.le hb1)
 | true=>
  cases r2 with
  | false=>
   go_enter Tryz.func327,Tryz.ntmps327
   go_wp2_with (first
    | (go_at_call 390;((with_reducible refine(F1.out _ H0.out.v).mono ?_);rintro e w1 ⟨_,rfl,hb1,rfl⟩;have hc1:=(Rp hb1).1))
    | (go_at_call 360;((with_reducible refine(F2.out _ (H0.out.k.mono hb1)).mono ?_);rintro e w2 ⟨_,rfl,hb2,rfl⟩)))
   go_ret
   exact Ay rfl ((HB.out.le hb1).le hb2)
  | true=>
   go_enter Tryz.func327,Tryz.ntmps327
   go_wp2_with (first
    | (go_at_call 390;((with_reducible refine(F1.out _ H0.out.v).mono ?_);rintro e w1 ⟨_,rfl,hb1,rfl⟩;have hc1:=(Rp hb1).1))
    | (go_at_call 360;((with_reducible refine(F2.out _ (H0.out.k.mono hb1)).mono ?_);rintro e w2 ⟨_,rfl,hb2,rfl⟩;have hc2:=(Rp (hb1.le hb2)).1))
    | (go_at_call 391;((with_reducible refine(F3.out _ (H0.out.k.mono (hb1.le hb2))).mono ?_);rintro e w3 ⟨_,rfl,hb3,rfl⟩)))
   go_ret
   exact Ay rfl (((HB.out.le hb1).le hb2).le hb3)
theorem Ao8 (x y:Int) (A B:Option Addr) (n ca m cb:Nat) (c:Ctx) (w:World) (h:Con w A n ca B m cb c) :
  Calls Tryz.prog 274 #[.agg #[.slice A n ca,.slice B m cb],.agg #[.int .i64 x,.int .i64 y]] w (Ret w (IsB (Kf c (x,y)))):=by
 have hb0:Below w.heap.size w ((w.alloc (Ba A n ca B m cb)).alloc (.cells #[.int .i64 x,.int .i64 y] 224)):=by go_grown
 have h0:=h.mono hb0
 have hz:w.heap.size+1<((w.alloc (Ba A n ca B m cb)).alloc (.cells #[.int .i64 x,.int .i64 y] 224)).heap.size:=by simp
 have f1:=fun w1 h1=>Alh x y A n ca c.1 w1 h1
 have f2:=fun w1=>Lw x y w1
 have f3:=fun w1 h1=>Au6 x y B m cb c.2 w1 h1
 unfold Kf
 generalize I5 c.1 (x,y)=r1 at *
 generalize Bm (x,y)=r2 at *
 generalize Vo (x,y) c.2=r3 at *
 have F1:=Avp f1;have F2:=Avp f2;have F3:=Avp f3;have H0:=Avp h0;have HB:=Avp hb0
 clear f1 f2 f3 h0 h hb0
 cases r1 with
 | true=>
  go_enter Tryz.func274,Tryz.ntmps274
  go_wp2_with (first
   | (go_at_call 357;((with_reducible refine(F1.out _ H0.out.v).mono ?_);rintro e w1 ⟨_,rfl,hb1,rfl⟩)))
  go_ret
  exact Ay rfl (HB.out.le hb1)
 | false=>
  cases r2 with
  | false=>
   go_enter Tryz.func274,Tryz.ntmps274
   go_wp2_with (first
    | (go_at_call 357;((with_reducible refine(F1.out _ H0.out.v).mono ?_);rintro e w1 ⟨_,rfl,hb1,rfl⟩;have hc1:=(Rp hb1).1))
    | (go_at_call 162;((with_reducible refine(F2.out _).mono ?_);rintro e w2 ⟨_,rfl,hb2,rfl⟩)))
   go_ret
   exact Ay rfl ((HB.out.le hb1).le hb2)
  | true=>
   go_enter Tryz.func274,Tryz.ntmps274
   go_wp2_with (first
    | (go_at_call 357;((with_reducible refine(F1.out _ H0.out.v).mono ?_);rintro e w1 ⟨_,rfl,hb1,rfl⟩;have hc1:=(Rp hb1).1))
    | (go_at_call 162;((with_reducible refine(F2.out _).mono ?_);rintro e w2 ⟨_,rfl,hb2,rfl⟩;have hc2:=(Rp (hb1.le hb2)).1))
    | (go_at_call 358;((with_reducible refine(F3.out _ (H0.out.k.mono (hb1.le hb2))).mono ?_);rintro e w3 ⟨_,rfl,hb3,rfl⟩)))
   go_ret
   exact Ay rfl (((HB.out.le hb1).le hb2).le hb3)
def Ml (v:List Dot) (d:Dot):Bool:=decide (d.2<=By v d.1+1)
def Ic (c:Ctx):Bool:=Dy c && !c.2.any (Ml c.1)
theorem Nf:∀ (l:List Dot) (r:Int),Ax l=true->0<=By l r∧By l r<=4294967295
 | [],_,_=>⟨by simp[By],by simp[By]⟩
 | a::t,r,h=>by
  simp only[Ax,List.all_cons,Bool.and_eq_true] at h
  have h1:=Hp.1 h.1
  simp only[By]
  split
  ·omega
  ·exact Nf t r h.2
theorem Ags (A:Option Addr) (n ca:Nat) (v l:List Dot) (b:Nat) (w:World) (hv:Ax v=true) (h:Bc w A n ca v) (hc:w.cell? ⟨b,0,none⟩=some (.slice A n ca)) :
  Xz w 325 #[.pointer (some ⟨b,0,none⟩)] l (Ml v):=by
 intro w' hw x y _
 show Calls Tryz.prog 325 #[.agg #[.int .i64 x,.int .i64 y],.pointer (some ⟨b,0,none⟩)] w' (Ret w' (IsB (Ml v (x,y))))
 have hb0:Below w'.heap.size w' (w'.alloc (.cells #[.int .i64 x,.int .i64 y] 224)):=by go_grown
 have k1:(w'.alloc (.cells #[.int .i64 x,.int .i64 y] 224)).cell? ⟨w'.heap.size,0,none⟩=some (.int .i64 x):=by simp[go_sem]
 have k2:(w'.alloc (.cells #[.int .i64 x,.int .i64 y] 224)).cell? ⟨w'.heap.size,1,none⟩=some (.int .i64 y):=by simp[go_sem]
 have k3:(w'.alloc (.cells #[.int .i64 x,.int .i64 y] 224)).cell? ⟨b,0,none⟩=some (.slice A n ca):=Ad hb0 (Ad hw hc)
 have h0:=(h.mono hw).mono hb0
 have cg:=fun w1 h1=>Aru A n ca v x w1 h1
 have hbd:=Nf v x hv
 unfold Ml
 generalize By v (x,y).1=q at *
 have ew:IntKind.i64.wrap (q+1)=q+1:=IntWalk.i64_in _ (by omega)
 have CG:=Avp cg;have H0:=Avp h0;have EW:=Avp ew;have HB:=Avp hb0;have K1:=Avp k1;have K2:=Avp k2;have K3:=Avp k3
 clear cg h0 h hw hc ew hbd hv hb0 k1 k2 k3
 go_enter Tryz.func325,Tryz.ntmps325
 go_wp2_with fail
 refine Am mixed (by kernel_rfl) ?_
 refine Ab.step (Ob.fieldV Aa.free Has.oldIs (fun w1=>Qe)) ?_
 refine Ab.step (Ob.loadV Aa.free (Has.new 0 0) (fun w1 hb1=>Mi hb1 K2.out)) ?_
 refine Ab.step (Ob.fieldV Aa.free Has.oldIs (fun w1=>Qb)) ?_
 refine Ab.step (Ob.loadV Aa.free (Has.new 2 0) (fun w1 hb1=>Yb hb1 K3.out)) ?_
 refine Ab.step (Ob.fieldV Aa.free Has.oldIs (fun w1=>Qv)) ?_
 refine Ab.step (Ob.loadV Aa.free (Has.new 4 0) (fun w1 hb1=>Mi hb1 K1.out)) ?_
 refine Ab.step (Ob.call2V Aa.free Rm (Has.new 3 2) (Has.new 5 0) (fun w1 hb1=>CG.out w1 (H0.out.mono hb1))) ?_
 refine Ab.step (Ob.binV Aa.free (Has.new 6 0) (Has.cst _) (fun w1=>Aod _ EW.out)) ?_
 refine Ab.step (Ob.binV Aa.free (Has.new 1 6) (Has.new 7 0) (fun w1=>Acm _ rfl)) ?_
 refine Ab.step (Ob.assign Aa.free (Has.new 8 0)) ?_
 simp only[Ab,Ao,List.map,Bq,List.reverse_cons,List.reverse_nil,List.nil_append,List.cons_append]
 intro wE hE
 iterate 10 (rintro _ rfl)
 simp only[Act.put,List.setIfInBounds_toArray,List.set_cons_zero,List.set_cons_succ]
 go_wp2
 go_ret
 exact Ay rfl (HB.out.le hE)
theorem Q8 (A B:Option Addr) (n ca m cb:Nat) (c:Ctx) (w:World) (h:Con w A n ca B m cb c) :
  Calls Tryz.prog 257 #[.agg #[.slice A n ca,.slice B m cb]] w (Ret w (IsB (Ic c))):=by
 have hb0:Below w.heap.size w (w.alloc (Ba A n ca B m cb)):=(Below.refl _ _).alloc (Nat.le_refl _) _
 have h0:=h.mono hb0
 have hz:w.heap.size<(w.alloc (Ba A n ca B m cb)).heap.size:=by simp
 have hc0:(w.alloc (Ba A n ca B m cb)).cell? ⟨w.heap.size,0,none⟩=some (.slice A n ca):=by simp[go_sem]
 have f1:=fun w1 h1=>Hc A B n ca m cb c w1 h1
 cases hv:Dy c with
 | false=>
  rw[hv] at f1
  have e:Ic c=false:=by unfold Ic;rw[hv];rfl
  rw[e]
  have F1:=Avp f1;have H0:=Avp h0;have HB:=Avp hb0
  clear f1 h0 h hb0 hv e hc0
  go_enter Tryz.func257,Tryz.ntmps257
  go_wp2_with (first
   | (go_at_call 327;((with_reducible refine(F1.out _ H0.out).mono ?_);rintro e w1 ⟨_,rfl,hb1,rfl⟩)))
  go_ret
  exact Ay rfl (HB.out.le hb1)
 | true=>
  rw[hv] at f1
  have hvl:Ax c.1=true:=by unfold Dy Eb at hv;simp at hv;exact hv.1.2
  have f2:=fun w1 (hb1:Below (w.alloc (Ba A n ca B m cb)).heap.size (w.alloc (Ba A n ca B m cb)) w1)=>Mm 325 #[.pointer (some ⟨w.heap.size,0,none⟩)] (Ml c.1) B m cb c.2 w1 (h0.k.mono hb1) Aez (Ags A n ca c.1 c.2 w.heap.size w1 hvl (h0.v.mono hb1) (Ad hb1 hc0))
  have e:Ic c = !c.2.any (Ml c.1):=by unfold Ic;rw[hv];rfl
  rw[e]
  generalize c.2.any (Ml c.1)=r at *
  have F1:=Avp f1;have F2:=Avp f2;have H0:=Avp h0;have HB:=Avp hb0
  clear f1 f2 h0 h hb0 hv e hc0 hvl
  go_enter Tryz.func257,Tryz.ntmps257
  go_wp2_with (first
   | (go_at_call 327;((with_reducible refine(F1.out _ H0.out).mono ?_);rintro e w1 ⟨_,rfl,hb1,rfl⟩;have hc1:=(Rp hb1).1))
   | (go_at_call 328;((with_reducible refine(F2.out _ hb1).mono ?_);rintro e w2 ⟨_,rfl,hb2,rfl⟩)))
  go_ret
  exact Ay rfl ((HB.out.le hb1).le hb2)
section
variable {P:Program} {ops:List Oper} {w0:World} {a0:Act} {Q:Exit->Act->World->Prop}
def C7 (n len:Nat):Array Bool:=(List.replicate n true++List.replicate (len - n) false).toArray
def okR (n:Nat) (ops:List Oper):Bool:=
 (List.range ops.length).all fun i=>match ops[i]? with
  | none=>false
  | some o=>(!decide (i<n)||((o.after.toList.all fun e=>decide (e.on<i))&&(match o.guard with | none=>true | some (j,_)=>decide (j<i)))) &&
   (if i<n then decide (i+1=n)||(List.range n).any fun k=>decide (i<k)&&(match ops[k]? with | some q=>Bl q i | none=>false) else (List.range i).any fun k=>decide (n<=k+1)&&Bl o k)
theorem Mk {n:Nat} (h:okR n ops=true) {i:Nat} {o:Oper} (hi:ops[i]?=some o):(i<n->∀ e∈o.after,e.on<i)∧(i<n->∀ j b,o.guard=some (j,b)->j<i)∧
  (i+1<n->∃ k q,i<k∧k<n∧ops[k]?=some q∧Bl q i=true)∧(n<=i->∃ k,k<i∧n<=k+1∧Bl o k=true):=by
 have hl:i<ops.length:=(List.getElem?_eq_some_iff.1 hi).1
 have:=List.all_eq_true.1 h i (List.mem_range.2 hl)
 simp only[hi,Bool.and_eq_true] at this
 obtain⟨h1,h3⟩:=this
 refine⟨fun hin e he=>?_,fun hin j b hg=>?_,fun hin=>?_,fun hin=>?_⟩
 ·simp only[hin,decide_true,Bool.not_true,Bool.false_or,Bool.and_eq_true] at h1
  simpa using List.all_eq_true.1 h1.1 e (by simpa using he)
 ·simp only[hin,decide_true,Bool.not_true,Bool.false_or,Bool.and_eq_true] at h1
  have h2:=h1.2
  rw[hg] at h2;simpa using h2
 ·rw[if_pos (by omega)] at h3
  have hne:decide (i+1=n)=false:=by rw[decide_eq_false_iff_not];omega
  rw[hne,Bool.false_or,List.any_eq_true] at h3
  obtain⟨k,hk,hk2⟩:=h3
  rw[Bool.and_eq_true] at hk2
  cases hq:ops[k]? with
  | none=>rw[hq] at hk2;exact absurd hk2.2 (by simp)
  | some q=>rw[hq] at hk2;exact⟨k,q,by simpa using hk2.1,List.mem_range.1 hk,hq,hk2.2⟩
 ·rw[if_neg (by omega),List.any_eq_true] at h3
  obtain⟨k,hk,hk2⟩:=h3
  rw[Bool.and_eq_true,decide_eq_true_iff] at hk2
  exact⟨k,List.mem_range.1 hk,hk2.1,hk2.2⟩
def Dv (P:Program) (ops:List Oper) (n:Nat) (w0:World) (a0:Act) (Q:Exit->Act->World->Prop):List Oper->List VT->Prop
 | o::os,RF=>∃ F:VT,Grows F∧Ob P (ops.take n) RF.reverse w0 a0 RF.length o F∧Dv P ops n w0 a0 Q os (F::RF)
 | [],RF=>∀ w,Below w0.heap.size w0 w->Bq (fun _ a w=>wpAny P .any ops.toArray Q (ops.length - n) (C7 n ops.length) a w) (Ao (ops.take n)) RF.reverse a0 w
theorem Dv.step {n:Nat} {o:Oper} {os:List Oper} {RF:List VT} {F:VT} [hF:Grows F] (h:Ob P (ops.take n) RF.reverse w0 a0 RF.length o F) (k:Dv P ops n w0 a0 Q os (F::RF)):Dv P ops n w0 a0 Q (o::os) RF:=⟨F,hF,h,k⟩
theorem Dv.fore {n:Nat}:∀ {os:List Oper} {RF:List VT},Dv P ops n w0 a0 Q os RF->Pj P (ops.take n) w0 a0 (fun _ a w=>wpAny P .any ops.toArray Q (ops.length - n) (C7 n ops.length) a w) os RF.reverse
 | [],_,h=>h
 | o::os,RF,⟨F,hF,hob,k⟩=>⟨F,hF,by rw[List.length_reverse];exact hob,by have:=k.fore;rwa [List.reverse_cons] at this⟩
theorem Sr {n:Nat} {Gs:List VT} (hn:n<ops.length) (hok:okM a0.tmps.size 0 (ops.take n) []=true) (hot:okR n ops=true) (hlen:Gs.length=(ops.take n).length)
  (hobs:∀ (i:Nat) (o:Oper) (F:VT),(ops.take n)[i]?=some o->Gs[i]?=some F->Grows F∧Ob P (ops.take n) Gs w0 a0 i o F)
  (hend:∀ w,Below w0.heap.size w0 w->Bq (fun _ a w=>wpAny P .any ops.toArray Q (ops.length - n) (C7 n ops.length) a w) (Ao (ops.take n)) Gs a0 w) :
  ∀ (fuel:Nat) (listed:Array Bool) (a:Act) (w:World),Pn (ops.take n) Gs w0 a0 listed a w->listed.size=ops.length->(∀ j,n<=j->j<ops.length->listed[j]?=some false)->Bh listed=fuel->wpAny P .any ops.toArray Q fuel listed a w:=by
 obtain⟨s1,s2⟩:=Ix hok
 have htl:(ops.take n).length=n:=by rw[List.length_take];omega
 have bodyAt:∀ j o,j<n->(ops[j]?=some o↔(ops.take n)[j]?=some o):=fun j o hj=>by rw[List.getElem?_take,if_pos hj]
 intro fuel
 induction fuel with
 | zero=>
  intro listed a w h hs hf hu
  exfalso
  have h1:=hf n (Nat.le_refl _) hn
  have:0<Bh listed:=by
   unfold Bh
   rw[List.countP_pos_iff]
   refine⟨false,?_,rfl⟩
   rw[<-Array.getElem?_toList] at h1
   exact List.mem_of_getElem? h1
  omega
 | succ fuel ih=>
  intro listed a w h hs hf hu
  by_cases hall:∀ j,j<n->listed[j]?=some true
  ·
   have e:listed=C7 n ops.length:=by
    refine Array.ext (by simp[C7];omega) fun j h1 h2=>?_
    have hl:listed[j]?=(C7 n ops.length)[j]?:=by
     have hr:(C7 n ops.length)[j]?=if j<n then (if j<n then some true else none) else (if j - n<ops.length - n then some false else none):=by
      unfold C7
      rw[List.getElem?_toArray,List.getElem?_append,List.length_replicate,List.getElem?_replicate,List.getElem?_replicate]
     rw[hr]
     by_cases hj:j<n
     ·rw[if_pos hj,if_pos hj];exact hall j hj
     ·rw[if_neg hj,if_pos (by omega)];exact hf j (by omega) (by omega)
    rw[Array.getElem?_eq_getElem h1,Array.getElem?_eq_getElem h2] at hl
    exact Option.some.inj hl
   have hQ:wpAny P .any ops.toArray Q (ops.length - n) (C7 n ops.length) a w:=by
    refine Ni (Q:=fun _ a w=>wpAny P .any ops.toArray Q (ops.length - n) (C7 n ops.length) a w) (ops.take n) Gs a0 (fun j o d F h1 h2 h3=>h.done j o d F (hall j (by have:=(List.getElem?_eq_some_iff.1 h1).1;omega)) h1 h2 h3) hlen.symm (fun o ho=>?_) h.defers.symm h.size.symm (fun t ht=>(h.old t ht).symm) (hend w h.le)
    obtain⟨j,hj⟩:=List.getElem?_of_mem ho
    obtain⟨⟨d,hd,_⟩,_⟩:=s1 j o hj
    rw[hd];simp
   have hcount:Bh listed=ops.length - n:=by
    rw[e]
    unfold Bh C7
    simp[List.countP_append,List.countP_replicate]
   rw[<-hu,hcount,e]
   exact hQ
  ·
   have hex:∃ j,j<n∧listed[j]?=some false:=by
    refine Classical.byContradiction fun hne=>hall fun j hj=>?_
    have hjs:j<listed.size:=by omega
    cases hb:listed[j] with
    | true=>rw[Array.getElem?_eq_getElem hjs,hb]
    | false=>exact absurd ⟨j,hj,by rw[Array.getElem?_eq_getElem hjs,hb]⟩ hne
   have hnr:Region.ready .any ops.toArray listed≠[]:=by
    obtain⟨j0,hj0,hjf⟩:=hex
    have key:∀ j,j<n->listed[j]?=some false->Region.ready .any ops.toArray listed≠[]:=by
     intro j
     induction j using Nat.strongRecOn with
     | _ j ihj=>
      intro hj hjf hr
      have hjo:ops[j]?=some ops[j]:=List.getElem?_eq_getElem (by omega)
      have:j∈Region.ready .any ops.toArray listed:=mem_ready.2 ⟨by simp[Array.getD_eq_getD_getElem?,hjf],ops[j],by simp,fun e he _=>by
       have hlt:=(Mk hot hjo).1 (by omega) e he
       have hes:e.on<listed.size:=by omega
       cases hb:listed[e.on] with
       | true=>simp[Array.getD_eq_getD_getElem?,hes,hb]
       | false=>exact absurd hr (ihj e.on hlt (by omega) (by rw[Array.getElem?_eq_getElem hes,hb]))⟩
      rw[hr] at this;cases this
    exact key j0 hj0 hjf
   refine⟨fun h0=>absurd h0 hnr,fun i hi=>?_⟩
   obtain⟨h0,o,ho,hed⟩:=mem_ready.1 hi
   have ho':ops[i]?=some o:=by simpa using ho
   have hil:i<ops.length:=(List.getElem?_eq_some_iff.1 ho').1
   have edgeF:∀ (o:Oper),ops[i]?=some o->∀ j,Bl o j=true->listed[j]?=some true:=fun q hq j he=>by
    have hqo:q=o:=by rw[hq] at ho';simpa using ho'
    subst hqo
    unfold Bl at he
    rw[List.any_eq_true] at he
    obtain⟨e,hm,he⟩:=he
    simp only[Bool.and_eq_true,beq_iff_eq] at he
    have h1:=hed e (by simpa using hm) he.2
    rw[he.1] at h1
    have hj2:j<listed.size:=by
     rcases Nat.lt_or_ge j listed.size with h9 | h9
     ·exact h9
     ·simp[Array.getD_eq_getD_getElem?,h9] at h1
    rw[Array.getElem?_eq_getElem hj2]
    simpa [Array.getD_eq_getD_getElem?,hj2] using h1
   have hin:i<n:=by
    rcases Nat.lt_or_ge i n with h1 | h1
    ·exact h1
    ·exfalso
     obtain⟨k,hk1,hk2,hk3⟩:=(Mk hot ho').2.2.2 h1
     rcases Nat.lt_or_ge k n with h2 | h2
     ·have hk:k+1=n:=by omega
      have chain:∀ d j,n - j=d->j<n->listed[j]?=some true:=by
       intro d
       induction d using Nat.strongRecOn with
       | _ d ihd=>
        intro j hd hj
        by_cases hjk:j=k
        ·subst hjk;exact edgeF o ho' j hk3
        ·have hjo:ops[j]?=some ops[j]:=List.getElem?_eq_getElem (by omega)
         obtain⟨m,q,hm1,hm2,hm3,hm4⟩:=(Mk hot hjo).2.2.1 (by omega)
         exact h.closed m q j (ihd (n - m) (by omega) m rfl hm2) ((bodyAt m q hm2).1 hm3) hm4
      exact hall fun j hj=>chain (n - j) j rfl hj
     ·have:=edgeF o ho' k hk3
      have h5:=hf k h2 (by omega)
      rw[this] at h5;cases h5
   have hob':(ops.take n)[i]?=some o:=(bodyAt i o hin).1 ho'
   have hjl:i<listed.size:=by omega
   have hfi:listed[i]?=some false:=by
    rw[Array.getElem?_eq_getElem hjl]
    simpa [Array.getD_eq_getD_getElem?,hjl] using h0
   have hGi:i<Gs.length:=by omega
   obtain⟨hgr,hob⟩:=hobs i o Gs[i] hob' (List.getElem?_eq_getElem hGi)
   have hg:∀ (j:Nat) (F:VT),Gs[j]?=some F->Grows F:=fun j F hj=>by
    have hjo:j<(ops.take n).length:=by rw[<-hlen];exact(List.getElem?_eq_some_iff.1 hj).1
    exact(hobs j (ops.take n)[j] F (List.getElem?_eq_getElem hjo) hj).1
   have edge:=edgeF o ho'
   have cx:Cx (ops.take n) Gs w0 a0 i o a w:=⟨h.le,h.defers,h.size,h.old,fun j oj d G he h1 h2 h3=>h.done j oj d G (edge j he) h1 h2 h3,fun j oj d h1 he h2=>by
    refine h.todo j oj d ?_ h1 h2
    have hj3:j<(ops.take n).length:=(List.getElem?_eq_some_iff.1 h1).1
    have hj2:j<listed.size:=by omega
    cases hb:listed[j] with
    | false=>rw[Array.getElem?_eq_getElem hj2,hb]
    | true=>
     exfalso
     have:=h.closed j oj i (by rw[Array.getElem?_eq_getElem hj2,hb]) h1 he
     rw[hfi] at this;cases this⟩
   have hob2:=hob a w cx
   rw[J9 hin ((Mk hot ho').2.1 hin)] at hob2
   have step:∀ a' w',Pn (ops.take n) Gs w0 a0 (listed.setIfInBounds i true) a' w'->wpAny P .any ops.toArray Q fuel (listed.setIfInBounds i true) a' w':=fun a' w' h'=>
    ih _ a' w' h' (by simp[hs]) (fun j hj hjl2=>by rw[Array.getElem?_setIfInBounds_ne (by omega)];exact hf j hj hjl2) (by have:=Ei hfi;omega)
   unfold wpOp
   simp only[ho]
   split
   ·rename_i hw
    rw[if_pos hw] at hob2
    refine .inl (Oper.wp_noQ (Oper.wp_mono (fun a' w' h'=>?_) hob2))
    obtain⟨v,rfl,hb,hv⟩:=h'
    exact step _ _ (h.put hok hg hb hob' edge fun G hG=>by rw[List.getElem?_eq_getElem hGi] at hG;cases hG;exact hv)
   ·rename_i hw
    rw[if_neg hw] at hob2
    exact step _ _ (h.put hok hg (Below.refl _ _) hob' edge fun G hG=>by rw[List.getElem?_eq_getElem hGi] at hG;cases hG;exact hob2)
theorem U8 {id:Nat} (n:Nat) (hm:P.follows .mixedOrders=true) (hok:okM a0.tmps.size 0 (ops.take n) []=true) (hot:(decide (n<ops.length)&&okR n ops)=true) (h:Dv P ops n w0 a0 Q (ops.take n) []):(Code.region id ops.toArray true).wp P Q a0 w0:=by
 rw[Bool.and_eq_true,decide_eq_true_iff] at hot
 obtain⟨Gs,h1,h2,h3⟩:=Pj.all (Fs:=[]) h.fore [] rfl (by simp) (fun i o F hi=>by simp at hi)
 refine wp_region_any hm ?_
 have hu:Bh (Array.replicate ops.length false)=ops.length:=by simp[Bh,List.countP_replicate]
 have:=Sr (Q:=Q) hot.1 hok hot.2 h1 h2 h3 ops.length (Array.replicate ops.length false) a0 { w0 with drawn:=w0.drawn+1 }
  ⟨(Below.refl _ w0).drew,rfl,rfl,by simp[List.length_take];omega,fun _ _=>rfl,fun j oj d G hj=>by simp[Array.getElem?_replicate] at hj,fun j oj i hj=>by simp[Array.getElem?_replicate] at hj,fun j oj d _ _ _=>rfl⟩ (by simp) (fun j _ hj=>by simp[hj]) hu
 simpa using this
theorem Cu {ops:Array Oper} {fuel i:Nat} {listed:Array Bool} {a:Act} {w:World} {o:Oper} (hr:Region.ready .any ops listed=[i]) (ho:ops[i]?=some o) (hg:o.guard=none)
  (h:o.wp P a w (wpAny P .any ops Q fuel (listed.setIfInBounds i true)) Q):wpAny P .any ops Q (fuel+1) listed a w:=by
 refine⟨fun h0=>(by rw[hr] at h0;cases h0),fun j hj=>?_⟩
 rw[hr] at hj
 obtain rfl:=List.mem_singleton.1 hj
 unfold wpOp
 simp only[ho]
 rw[if_pos (by simp[Region.wanted,hg])]
 exact .inl h
end
section
variable {P:Program} {ops:List Oper} {w0:World} {a0:Act} {Q:Exit->Act->World->Prop}
end
section
variable {P:Program} {ops:List Oper} {w0:World} {a0:Act} {Q:Exit->Act->World->Prop}
end
section
variable {P:Program} {ops:List Oper} {w0:World} {a0:Act} {Q:Exit->Act->World->Prop}
def okU (n u:Nat) (ops:List Oper):Bool:=
 (List.range ops.length).all fun i=>match ops[i]? with
  | none=>false
  | some o=>(!decide (i<n)||((o.after.toList.all fun e=>decide (e.on<i))&&(match o.guard with | none=>true | some (j,_)=>decide (j<i)))) &&
   (decide (i<n)||(List.range i).any (fun k=>decide (n<=k)&&Bl o k)||(List.range n).all fun j=>j==u||Bl o j||(List.range n).any fun k=>Bl o k&&(match ops[k]? with | some q=>Bl q j | none=>false))
theorem Mz {n u:Nat} (h:okU n u ops=true) {i:Nat} {o:Oper} (hi:ops[i]?=some o):(i<n->∀ e∈o.after,e.on<i)∧(i<n->∀ j b,o.guard=some (j,b)->j<i)∧
  (n<=i->(∃ k,k<i∧n<=k∧Bl o k=true)∨∀ j,j<n->j≠u->Bl o j=true∨∃ k q,k<n∧ops[k]?=some q∧Bl o k=true∧Bl q j=true):=by
 have hl:i<ops.length:=(List.getElem?_eq_some_iff.1 hi).1
 have:=List.all_eq_true.1 h i (List.mem_range.2 hl)
 simp only[hi,Bool.and_eq_true] at this
 obtain⟨h1,h3⟩:=this
 refine⟨fun hin e he=>?_,fun hin j b hg=>?_,fun hin=>?_⟩
 ·simp only[hin,decide_true,Bool.not_true,Bool.false_or,Bool.and_eq_true] at h1
  simpa using List.all_eq_true.1 h1.1 e (by simpa using he)
 ·simp only[hin,decide_true,Bool.not_true,Bool.false_or,Bool.and_eq_true] at h1
  have h2:=h1.2
  rw[hg] at h2;simpa using h2
 ·have hne:decide (i<n)=false:=by rw[decide_eq_false_iff_not];omega
  rw[hne,Bool.false_or,Bool.or_eq_true] at h3
  rcases h3 with h3 | h3
  ·rw[List.any_eq_true] at h3
   obtain⟨k,hk,hk2⟩:=h3
   rw[Bool.and_eq_true,decide_eq_true_iff] at hk2
   exact .inl ⟨k,List.mem_range.1 hk,hk2.1,hk2.2⟩
  ·refine .inr fun j hj hju=>?_
   have h4:=List.all_eq_true.1 h3 j (List.mem_range.2 hj)
   rw[Bool.or_eq_true,Bool.or_eq_true] at h4
   rcases h4 with(h4 | h4) | h4
   ·exact absurd (by simpa using h4) hju
   ·exact .inl h4
   ·rw[List.any_eq_true] at h4
    obtain⟨k,hk,hk2⟩:=h4
    rw[Bool.and_eq_true] at hk2
    cases hq:ops[k]? with
    | none=>rw[hq] at hk2;exact absurd hk2.2 (by simp)
    | some q=>rw[hq] at hk2;exact .inr ⟨k,q,List.mem_range.1 hk,hq,hk2.1,hk2.2⟩
def Wj (u n len:Nat):Array Bool:=(C7 n len).setIfInBounds u false
def Kv (ops:List Oper) (u:Nat):Bool:=match ops[u]? with
 | some o=>(match o.guard with | none=>true | some _=>false)&&(match o.op with | .extract _ _=>true | _=>false)
 | none=>false
theorem Qf {u:Nat} {o:Oper} (h:Kv ops u=true) (ho:ops[u]?=some o):o.guard=none∧∃ t k,o.op = .extract t k:=by
 unfold Kv at h
 rw[ho,Bool.and_eq_true] at h
 refine⟨?_,?_⟩
 ·cases hg:o.guard with
  | none=>rfl
  | some g=>rw[hg] at h;cases h.1
 ·have h2:=h.2
  cases hop:o.op <;> rw[hop] at h2 <;> first | exact⟨_,_,rfl⟩ | cases h2
theorem V7 {o:Oper} {a:Act} {w:World} {t:Operand} {k:Nat} {K:Act->World->Prop} (ho:o.op = .extract t k) (h:o.wp P a w K (fun _ _ _=>False)):∃ v,True∧∀ w',(execOp a.eval o).run P w' = .ok (.value v) w':=by
 unfold Oper.wp at h
 generalize a.eval=ρ at h
 cases hρ:ρ t with
 | tuple vs=>
  cases hv:vs[k]? with
  | some v=>exact⟨v,trivial,fun w'=>by simp[execOp,ho,hρ,hv,go_sem]⟩
  | none=>exfalso;simp[execOp,ho,hρ,hv,go_sem,Oper.upon] at h
 | _=>exfalso;simp[execOp,ho,hρ,go_sem,Oper.upon] at h
theorem Sz {n u : Nat} {Gs : List VT} (hn : n < ops.length) (hok : okM a0.tmps.size 0 (ops.take n) [] = true) (hot : okU n u ops = true) (hlen : Gs.length = (ops.take n).length)
    (hobs : ∀ (i : Nat) (o : Oper) (F : VT), (ops.take n)[i]? = some o -> Gs[i]? = some F -> Grows F ∧ Ob P (ops.take n) Gs w0 a0 i o F)
    (hend : ∀ w, Below w0.heap.size w0 w -> Bq (fun _ a w => wpAny P .any ops.toArray Q (ops.length - n) (C7 n ops.length) a w) (Ao (ops.take n)) Gs a0 w)
    (hun : u < n) (hux : Kv ops u = true) (hcu : (Region.noSelect ops.toArray && (Region.free .any ops.toArray (Wj u n ops.length) u && (Region.ready .any ops.toArray (Wj u n ops.length)).contains u)) = true)
    (hQp : ∀ c d v a w, Q (.panic c) (Act.put a d v) w -> Q (.panic c) a w) :
    ∀ (fuel : Nat) (listed : Array Bool) (a : Act) (w : World), Pn (ops.take n) Gs w0 a0 listed a w -> listed.size = ops.length -> (∀ j, n <= j -> j < ops.length -> listed[j]? = some false) -> Bh listed = fuel -> wpAny P .any ops.toArray Q fuel listed a w := by
  obtain ⟨s1, s2⟩ := Ix hok
  have htl : (ops.take n).length = n := by rw [List.length_take]; omega
  have bodyAt : ∀ j o, j < n -> (ops[j]? = some o ↔ (ops.take n)[j]? = some o) := fun j o hj => by rw [List.getElem?_take, if_pos hj]
  intro fuel
  induction fuel with
  | zero =>
    intro listed a w h hs hf hu
    exfalso
    have h1 := hf n (Nat.le_refl _) hn
    have : 0 < Bh listed := by
      unfold Bh
      rw [List.countP_pos_iff]
      refine ⟨false, ?_, rfl⟩
      rw [<- Array.getElem?_toList] at h1
      exact List.mem_of_getElem? h1
    omega
  | succ fuel ih =>
    intro listed a w h hs hf hu
    by_cases hall : ∀ j, j < n -> listed[j]? = some true
    ·
      have e : listed = C7 n ops.length := by
        refine Array.ext (by simp [C7]; omega) fun j h1 h2 => ?_
        have hl : listed[j]? = (C7 n ops.length)[j]? := by
          have hr : (C7 n ops.length)[j]? = if j < n then (if j < n then some true else none) else (if j - n < ops.length - n then some false else none) := by
            unfold C7
            rw [List.getElem?_toArray, List.getElem?_append, List.length_replicate, List.getElem?_replicate, List.getElem?_replicate]
          rw [hr]
          by_cases hj : j < n
          · rw [if_pos hj, if_pos hj]; exact hall j hj
          · rw [if_neg hj, if_pos (by omega)]; exact hf j (by omega) (by omega)
        rw [Array.getElem?_eq_getElem h1, Array.getElem?_eq_getElem h2] at hl
        exact Option.some.inj hl
      have hQ : wpAny P .any ops.toArray Q (ops.length - n) (C7 n ops.length) a w := by
        refine Ni (Q := fun _ a w => wpAny P .any ops.toArray Q (ops.length - n) (C7 n ops.length) a w) (ops.take n) Gs a0 (fun j o d F h1 h2 h3 => h.done j o d F (hall j (by have := (List.getElem?_eq_some_iff.1 h1).1; omega)) h1 h2 h3) hlen.symm (fun o ho => ?_) h.defers.symm h.size.symm (fun t ht => (h.old t ht).symm) (hend w h.le)
        obtain ⟨j, hj⟩ := List.getElem?_of_mem ho
        obtain ⟨⟨d, hd, _⟩, _⟩ := s1 j o hj
        rw [hd]; simp
      have hcount : Bh listed = ops.length - n := by
        rw [e]
        unfold Bh C7
        simp [List.countP_append, List.countP_replicate]
      rw [<- hu, hcount, e]
      exact hQ
    · by_cases hbut : ∀ j, j < n -> j ≠ u -> listed[j]? = some true
      · have hlu : listed[u]? = some false := by
          have hus : u < listed.size := by omega
          cases hb : listed[u] with
          | false => rw [Array.getElem?_eq_getElem hus, hb]
          | true => exact absurd (fun j hj => by by_cases e : j = u; · subst e; rw [Array.getElem?_eq_getElem hus, hb]
                                                 · exact hbut j hj e) hall
        have e : listed = Wj u n ops.length := by
          refine Array.ext (by simp [Wj, C7]; omega) fun j h1 h2 => ?_
          have hl : listed[j]? = (Wj u n ops.length)[j]? := by
            unfold Wj
            by_cases hju : j = u
            · subst hju
              have : j < (C7 n ops.length).size := by simp [C7]; omega
              rw [Array.getElem?_setIfInBounds_self, if_pos this]; exact hlu
            · rw [Array.getElem?_setIfInBounds_ne (fun e => hju e.symm)]
              have hr : (C7 n ops.length)[j]? = if j < n then (if j < n then some true else none) else (if j - n < ops.length - n then some false else none) := by
                unfold C7
                rw [List.getElem?_toArray, List.getElem?_append, List.length_replicate, List.getElem?_replicate, List.getElem?_replicate]
              rw [hr]
              by_cases hj : j < n
              · rw [if_pos hj, if_pos hj]; exact hbut j hj hju
              · rw [if_neg hj, if_pos (by omega)]; exact hf j (by omega) (by omega)
          rw [Array.getElem?_eq_getElem h1, Array.getElem?_eq_getElem h2] at hl
          exact Option.some.inj hl
        have huo : ops[u]? = some ops[u] := List.getElem?_eq_getElem (by omega)
        have huo2 : (ops.take n)[u]? = some ops[u] := (bodyAt u _ hun).1 huo
        obtain ⟨hgd, t_, k_, hxo⟩ := Qf hux huo
        have hGi : u < Gs.length := by omega
        obtain ⟨hgr, hob⟩ := hobs u ops[u] Gs[u] huo2 (List.getElem?_eq_getElem hGi)
        have hg : ∀ (j : Nat) (F : VT), Gs[j]? = some F -> Grows F := fun j F hj => by
          have hjo : j < (ops.take n).length := by rw [<- hlen]; exact (List.getElem?_eq_some_iff.1 hj).1
          exact (hobs j (ops.take n)[j] F (List.getElem?_eq_getElem hjo) hj).1
        have edge : ∀ j, Bl ops[u] j = true -> listed[j]? = some true := fun j he => by
          unfold Bl at he
          rw [List.any_eq_true] at he
          obtain ⟨e, hm, he⟩ := he
          simp only [Bool.and_eq_true, beq_iff_eq] at he
          have h9 := (Mz hot huo).1 hun e (by simpa using hm)
          rw [he.1] at h9
          exact hbut j (by omega) (by omega)
        have cx : Cx (ops.take n) Gs w0 a0 u ops[u] a w := ⟨h.le, h.defers, h.size, h.old, fun j oj d G he h1 h2 h3 => h.done j oj d G (edge j he) h1 h2 h3, fun j oj d h1 he h2 => by
          refine h.todo j oj d ?_ h1 h2
          have hj3 : j < (ops.take n).length := (List.getElem?_eq_some_iff.1 h1).1
          have hj2 : j < listed.size := by omega
          cases hb : listed[j] with
          | false => rw [Array.getElem?_eq_getElem hj2, hb]
          | true =>
            exfalso
            have := h.closed j oj u (by rw [Array.getElem?_eq_getElem hj2, hb]) h1 he
            rw [hlu] at this; cases this⟩
        have hob2 := hob a w cx
        rw [if_pos (by simp [Region.wanted, hgd])] at hob2
        obtain ⟨v, hv, hvk⟩ := V7 hxo hob2
        have hvk' := hvk
        unfold Oper.wp at hob2
        rw [hvk w] at hob2
        obtain ⟨v', e', hb', hF'⟩ := hob2
        have hinv : Pn (ops.take n) Gs w0 a0 (listed.setIfInBounds u true) (a.put ops[u].dst v) w := by
          rw [e']; exact h.put hok hg hb' huo2 edge fun G hG => by rw [List.getElem?_eq_getElem hGi] at hG; cases hG; exact hF'
        rw [<- e] at hcu
        exact Ap huo hgd hcu (fun c a w => hQp c _ _ a w) hvk' (ih _ _ _ hinv (by simp [hs]) (fun j hj hjl2 => by rw [Array.getElem?_setIfInBounds_ne (by omega)]; exact hf j hj hjl2) (by have := Ei hlu; omega))
      have hex2 : ∃ j, j < n ∧ j ≠ u ∧ listed[j]? ≠ some true := by
        refine Classical.byContradiction fun hne => hbut fun j hj hju => ?_
        exact Classical.byContradiction fun h9 => hne ⟨j, hj, hju, h9⟩
      have hex : ∃ j, j < n ∧ listed[j]? = some false := by
        obtain ⟨j, hj, _, hne⟩ := hex2
        have hjs : j < listed.size := by omega
        refine ⟨j, hj, ?_⟩
        cases hb : listed[j] with
        | true => exact absurd (by rw [Array.getElem?_eq_getElem hjs, hb]) hne
        | false => rw [Array.getElem?_eq_getElem hjs, hb]
      have hnr : Region.ready .any ops.toArray listed ≠ [] := by
        obtain ⟨j0, hj0, hjf⟩ := hex
        have key : ∀ j, j < n -> listed[j]? = some false -> Region.ready .any ops.toArray listed ≠ [] := by
          intro j
          induction j using Nat.strongRecOn with
          | _ j ihj =>
            intro hj hjf hr
            have hjo : ops[j]? = some ops[j] := List.getElem?_eq_getElem (by omega)
            have : j ∈ Region.ready .any ops.toArray listed := mem_ready.2 ⟨by simp [Array.getD_eq_getD_getElem?, hjf], ops[j], by simp, fun e he _ => by
              have hlt := (Mz hot hjo).1 (by omega) e he
              have hes : e.on < listed.size := by omega
              cases hb : listed[e.on] with
              | true => simp [Array.getD_eq_getD_getElem?, hes, hb]
              | false => exact absurd hr (ihj e.on hlt (by omega) (by rw [Array.getElem?_eq_getElem hes, hb]))⟩
            rw [hr] at this; cases this
        exact key j0 hj0 hjf
      refine ⟨fun h0 => absurd h0 hnr, fun i hi => ?_⟩
      obtain ⟨h0, o, ho, hed⟩ := mem_ready.1 hi
      have ho' : ops[i]? = some o := by simpa using ho
      have hil : i < ops.length := (List.getElem?_eq_some_iff.1 ho').1
      have edgeF : ∀ (o : Oper), ops[i]? = some o -> ∀ j, Bl o j = true -> listed[j]? = some true := fun q hq j he => by
        have hqo : q = o := by rw [hq] at ho'; simpa using ho'
        subst hqo
        unfold Bl at he
        rw [List.any_eq_true] at he
        obtain ⟨e, hm, he⟩ := he
        simp only [Bool.and_eq_true, beq_iff_eq] at he
        have h1 := hed e (by simpa using hm) he.2
        rw [he.1] at h1
        have hj2 : j < listed.size := by
          rcases Nat.lt_or_ge j listed.size with h9 | h9
          · exact h9
          · simp [Array.getD_eq_getD_getElem?, h9] at h1
        rw [Array.getElem?_eq_getElem hj2]
        simpa [Array.getD_eq_getD_getElem?, hj2] using h1
      have hin : i < n := by
        rcases Nat.lt_or_ge i n with h1 | h1
        · exact h1
        · exfalso
          rcases (Mz hot ho').2.2 h1 with ⟨k, hk1, hk2, hk3⟩ | hjs
          · have := edgeF o ho' k hk3
            have h5 := hf k hk2 (by omega)
            rw [this] at h5; cases h5
          · obtain ⟨j, hj, hju, hne⟩ := hex2
            refine hne ?_
            rcases hjs j hj hju with he | ⟨k, q, hk, hq, he1, he2⟩
            · exact edgeF o ho' j he
            · exact h.closed k q j (edgeF o ho' k he1) ((bodyAt k q hk).1 hq) he2
      have hob' : (ops.take n)[i]? = some o := (bodyAt i o hin).1 ho'
      have hjl : i < listed.size := by omega
      have hfi : listed[i]? = some false := by
        rw [Array.getElem?_eq_getElem hjl]
        simpa [Array.getD_eq_getD_getElem?, hjl] using h0
      have hGi : i < Gs.length := by omega
      obtain ⟨hgr, hob⟩ := hobs i o Gs[i] hob' (List.getElem?_eq_getElem hGi)
      have hg : ∀ (j : Nat) (F : VT), Gs[j]? = some F -> Grows F := fun j F hj => by
        have hjo : j < (ops.take n).length := by rw [<- hlen]; exact (List.getElem?_eq_some_iff.1 hj).1
        exact (hobs j (ops.take n)[j] F (List.getElem?_eq_getElem hjo) hj).1
      have edge := edgeF o ho'
      have cx : Cx (ops.take n) Gs w0 a0 i o a w := ⟨h.le, h.defers, h.size, h.old, fun j oj d G he h1 h2 h3 => h.done j oj d G (edge j he) h1 h2 h3, fun j oj d h1 he h2 => by
        refine h.todo j oj d ?_ h1 h2
        have hj3 : j < (ops.take n).length := (List.getElem?_eq_some_iff.1 h1).1
        have hj2 : j < listed.size := by omega
        cases hb : listed[j] with
        | false => rw [Array.getElem?_eq_getElem hj2, hb]
        | true =>
          exfalso
          have := h.closed j oj i (by rw [Array.getElem?_eq_getElem hj2, hb]) h1 he
          rw [hfi] at this; cases this⟩
      have hob2 := hob a w cx
      rw [J9 hin ((Mz hot ho').2.1 hin)] at hob2
      have step : ∀ a' w', Pn (ops.take n) Gs w0 a0 (listed.setIfInBounds i true) a' w' -> wpAny P .any ops.toArray Q fuel (listed.setIfInBounds i true) a' w' := fun a' w' h' =>
        ih _ a' w' h' (by simp [hs]) (fun j hj hjl2 => by rw [Array.getElem?_setIfInBounds_ne (by omega)]; exact hf j hj hjl2) (by have := Ei hfi; omega)
      unfold wpOp
      simp only [ho]
      split
      · rename_i hw
        rw [if_pos hw] at hob2
        refine .inl (Oper.wp_noQ (Oper.wp_mono (fun a' w' h' => ?_) hob2))
        obtain ⟨v, rfl, hb, hv⟩ := h'
        exact step _ _ (h.put hok hg hb hob' edge fun G hG => by rw [List.getElem?_eq_getElem hGi] at hG; cases hG; exact hv)
      · rename_i hw
        rw [if_neg hw] at hob2
        exact step _ _ (h.put hok hg (Below.refl _ _) hob' edge fun G hG => by rw [List.getElem?_eq_getElem hGi] at hG; cases hG; exact hob2)
def Fb (o:Oper):Oper:={ o with after:=(o.after.toList.filter fun e=>Region.binds .any e).toArray }
theorem Lr {l:Array Bool} {j:Nat}:j∈Region.ready .any (ops.map Fb).toArray l↔j∈Region.ready .any ops.toArray l:=by
 rw[mem_ready,mem_ready]
 refine and_congr_right fun _=>?_
 simp only[List.getElem?_toArray,List.getElem?_map]
 cases ops[j]? with
 | none=>simp
 | some o=>
  simp only[Option.map_some,Option.some.injEq,exists_eq_left']
  constructor
  ·intro h e he hb
   exact h e (by simp[Fb,he,hb]) hb
  ·intro h e he hb
   exact h e (by simp[Fb] at he;exact he.1) hb
theorem Agr {i:Nat} {K:Act->World->Prop} {a:Act} {w:World} (h:wpOp P (ops.map Fb).toArray Q i K a w):wpOp P ops.toArray Q i K a w:=by
 unfold wpOp at *
 simp only[List.getElem?_toArray,List.getElem?_map] at h ⊢
 cases ho:ops[i]? with
 | none=>rw[ho] at h;exact h
 | some o=>
  rw[ho] at h
  simp only[Option.map_some] at h
  have hw:Region.wanted (Fb o) (yielded (ops.map Fb).toArray a.tmps)=Region.wanted o (yielded ops.toArray a.tmps):=by
   unfold Region.wanted
   cases hgd:o.guard with
   | none=>simp[Fb,hgd]
   | some g=>
    obtain⟨k,b⟩:=g
    cases hk:ops[k]? with
    | none=>simp[Fb,hgd,yielded,hk]
    | some q=>simp[Fb,hgd,yielded,hk]
  have e1:(Fb o).wp P a w K Q=o.wp P a w K Q:=by
   have e:execOp a.eval (Fb o)=execOp a.eval o:=rfl
   unfold Oper.wp
   rw[e]
   generalize (execOp a.eval o).run P w=r
   cases r with
   | ok n w'=>cases n <;> rfl
   | halt x w'=>cases x <;> rfl
  have e2:(Fb o).asks P a w=o.asks P a w:=rfl
  rw[hw,e1,e2] at h
  exact h
theorem J0 {l:Array Bool}:Region.ready .any (ops.map Fb).toArray l=[]↔Region.ready .any ops.toArray l=[]:=by
 constructor
 ·intro h
  refine List.eq_nil_iff_forall_not_mem.2 fun j hj=>?_
  have h9:=Lr.2 hj
  rw[h] at h9
  cases h9
 ·intro h
  refine List.eq_nil_iff_forall_not_mem.2 fun j hj=>?_
  have h9:=Lr.1 hj
  rw[h] at h9
  cases h9
theorem Rj:∀ (fuel:Nat) (l:Array Bool) (a:Act) (w:World),wpAny P .any (ops.map Fb).toArray Q fuel l a w->wpAny P .any ops.toArray Q fuel l a w
 | 0,_,_,_,h=>⟨J0.1 h.1,h.2⟩
 | fuel+1,_,_,_,h=>⟨fun hr=>h.1 (J0.2 hr),fun i hi=>Agr (wpOp_mono (fun a' w' h'=>Rj fuel _ a' w' h') (h.2 i (Lr.2 hi)))⟩
theorem Vu {id:Nat} (π:List Nat) (n u:Nat) (hl:π.length=ops.length) (hcov:((List.range ops.length).all fun i=>π.contains i)=true) (hm:P.follows .mixedOrders=true) (hp:Lx π ops=true) (hok:okM a0.tmps.size 0 (((Cv π ops).map Fb).take n) []=true) (hot:(decide (n<((Cv π ops).map Fb).length)&&okU n u ((Cv π ops).map Fb))=true)
  (hun:u<n) (hux:Kv ((Cv π ops).map Fb) u=true) (hcu:(Region.noSelect ((Cv π ops).map Fb).toArray&&(Region.free .any ((Cv π ops).map Fb).toArray (Wj u n ((Cv π ops).map Fb).length) u&&(Region.ready .any ((Cv π ops).map Fb).toArray (Wj u n ((Cv π ops).map Fb).length)).contains u))=true)
  (hQp:∀ c d v a w,Q (.panic c) (Act.put a d v) w->Q (.panic c) a w)
  (h:Dv P ((Cv π ops).map Fb) n w0 a0 Q (((Cv π ops).map Fb).take n) []):(Code.region id ops.toArray true).wp P Q a0 w0:=by
 rw[Bool.and_eq_true,decide_eq_true_iff] at hot
 obtain⟨Gs,h1,h2,h3⟩:=Pj.all (Fs:=[]) h.fore [] rfl (by simp) (fun i o F hi=>by simp at hi)
 refine wp_region_any hm ?_
 have hlr:((Cv π ops).map Fb).length=ops.length:=by simp[Cv,hl]
 have hu:Bh (Array.replicate ((Cv π ops).map Fb).length false)=((Cv π ops).map Fb).length:=by simp[Bh,List.countP_replicate]
 have:=Sz (Q:=Q) hot.1 hok hot.2 h1 h2 h3 hun hux hcu hQp ((Cv π ops).map Fb).length (Array.replicate ((Cv π ops).map Fb).length false) a0 { w0 with drawn:=w0.drawn+1 }
  ⟨(Below.refl _ w0).drew,rfl,rfl,by simp[List.length_take];omega,fun _ _=>rfl,fun j oj d G hj=>by simp[Array.getElem?_replicate] at hj,fun j oj i hj=>by simp[Array.getElem?_replicate] at hj,fun j oj d _ _ _=>rfl⟩ (by simp) (fun j _ hj=>by rw[Array.getElem?_replicate,if_pos hj]) hu
 rw[hlr] at this
 have e:ops.toArray.size=ops.length:=by simp
 rw[e]
 have this2:=Rj _ _ _ _ this
 refine Xf hp _ (Array.replicate ops.length false) (Array.replicate ops.length false) _ _ ⟨by simp,by simp[hl],fun p j hpj=>?_,fun i hi hn=>?_⟩ this2
 ·have hpl:p<π.length:=(List.getElem?_eq_some_iff.1 hpj).1
  have hjl:=(Eg hp hpj).2.1
  simp[hjl,hl ▸ hpl]
 ·exfalso
  have h5:=List.all_eq_true.1 hcov i (List.mem_range.2 hi)
  exact hn (by simpa using h5)
theorem On {o:Oper} {a:Act} {w w':World} {K:Act->World->Prop} {ty:TypeId} {x y:Operand} {p v:Value} (ho:o.op = .store ty x y) (hd:o.dst=none) (hx:a.eval x=p) (hy:a.eval y=v) (e:(Instr.storeAt ty p v).run P w = .ok () w') (h:K a w'):o.wp P a w K Q:=by
 unfold Oper.wp
 generalize a.eval=ρ at hx hy
 have:(execOp ρ o).run P w = .ok .skip w':=by simp[execOp,ho,hx,hy,e]
 rw[this]
 show K (a.put o.dst undef) w'
 rw[hd];exact h
theorem Uw {o:Oper} {a:Act} {w:World} {K:Act->World->Prop} {x:Operand} {d:Tmp} {v:Value} (ho:o.op = .assign x) (hd:o.dst=some d) (hx:a.eval x=v) (h:K (a.put (some d) v) w):o.wp P a w K Q:=by
 unfold Oper.wp
 generalize a.eval=ρ at hx
 have:(execOp ρ o).run P w = .ok (.value v) w:=by simp[execOp,ho,hx]
 rw[this]
 show K (a.put o.dst v) w
 rw[hd];exact h
end
theorem Tt (A:Option Addr) (n c:Nat) (l:List Dot) (w:World) (h:Bc w A n c l) (hs:Small n):Calls Tryz.prog 313 #[.slice A n c] w (Ret w (Dd w.heap.size l)):=by
 have hq:=fun w a n c=>Lib.run_eql_slice_nil (P:=Tryz.prog) w 136 224 a n c 0 0 Tryz.underlying136
 cases A with
 | none=>
  have hc:=h.nil rfl
  have hn:n=0:=by have:=h.cap;omega
  subst hc;subst hn
  have hl:l=[]:=List.eq_nil_of_length_eq_zero h.len.symm
  subst hl
  clear h
  go_enter Tryz.func313,Tryz.ntmps313
  go_wp2
  go_ret
  exact⟨_,rfl,Below.refl _ _,Row.nil_ _ _⟩
 | some a=>
  have H:=Avp h;clear h
  go_enter Tryz.func313,Tryz.ntmps313
  go_wp2_with (at_builtin;refine D4 (B:=w.heap.size) (v:=.slice (some ⟨w.heap.size,0,none⟩) 0 0) (l:=[]) rfl rfl Tryz.underlying136 rfl rfl (Row.empty (Nat.le_refl _) (heap_alloc_new w _)) (H.out.mono (by go_grown)) (by have:=hs.out;have:=H.out.len;simp;omega) (by simp) ?_;intro v' w' hr' hg';simp only[Act.put,List.setIfInBounds_toArray,List.set_cons_zero,List.set_cons_succ])
  go_ret
  exact⟨_,rfl,(Below.alloc (Below.refl _ _) (Nat.le_refl _) _).grown hg' (by simp) (fun k hk=>by simp[Value.ownBlock] at hk;omega),hr'⟩
theorem Ur (A:Option Addr) (n c:Nat) (l:List Dot) (w:World) (h:Bc w A n c l) (hs:Small n):Calls Tryz.prog 314 #[.slice A n c] w (Ret w (Dd w.heap.size l)):=by
 have hq:=fun w a n c=>Lib.run_eql_slice_nil (P:=Tryz.prog) w 135 224 a n c 0 0 Tryz.underlying135
 cases A with
 | none=>
  have hc:=h.nil rfl
  have hn:n=0:=by have:=h.cap;omega
  subst hc;subst hn
  have hl:l=[]:=List.eq_nil_of_length_eq_zero h.len.symm
  subst hl
  clear h
  go_enter Tryz.func314,Tryz.ntmps314
  go_wp2
  go_ret
  exact⟨_,rfl,Below.refl _ _,Row.nil_ _ _⟩
 | some a=>
  have H:=Avp h;clear h
  go_enter Tryz.func314,Tryz.ntmps314
  go_wp2_with (at_builtin;refine D4 (B:=w.heap.size) (v:=.slice (some ⟨w.heap.size,0,none⟩) 0 0) (l:=[]) rfl rfl Tryz.underlying135 rfl rfl (Row.empty (Nat.le_refl _) (heap_alloc_new w _)) (H.out.mono (by go_grown)) (by have:=hs.out;have:=H.out.len;simp;omega) (by simp) ?_;intro v' w' hr' hg';simp only[Act.put,List.setIfInBounds_toArray,List.set_cons_zero,List.set_cons_succ])
  go_ret
  exact⟨_,rfl,(Below.alloc (Below.refl _ _) (Nat.le_refl _) _).grown hg' (by simp) (fun k hk=>by simp[Value.ownBlock] at hk;omega),hr'⟩
theorem Ca {w:World} {a:Addr} {v u:Value} (h:w.cell? a=some u):(w.setCell a v).cell? a=some v:=World.cell?_setCell_same w a v h
theorem Cs {w:World} {a b:Addr} {v u:Value} (hne:b≠a) (h:w.cell? a=some u):(w.setCell b v).cell? a=some u:=by rw[World.cell?_setCell_other w b a v hne];exact h
def Aiu (c:Ctx) (w:World) (v:Value):Prop:=∃ A n ca B m cb,v = .agg #[.slice A n ca,.slice B m cb]∧Con w A n ca B m cb c
instance (c:Ctx):Grows (Aiu c):=⟨fun hb ⟨A,n,ca,B,m,cb,e,h⟩=>⟨A,n,ca,B,m,cb,e,h.mono hb⟩⟩
def Arr (b:Nat) (c:Ctx) (w:World) (v:Value):Prop:=∃ A n ca B m cb,v = .agg #[.slice A n ca,.slice B m cb]∧Con w A n ca B m cb c∧Row w b (.slice A n ca) c.1∧Row w b (.slice B m cb) c.2
instance (b:Nat) (c:Ctx):Grows (Arr b c):=⟨fun hb ⟨A,n,ca,B,m,cb,e,h,h1,h2⟩=>⟨A,n,ca,B,m,cb,e,h.mono hb,h1.mono hb,h2.mono hb⟩⟩
section
variable {ops:List Oper} {Fs:List VT} {w0:World} {a0:Act} {i:Nat} {d:Option Tmp} {ty:TypeId} {pos:String} {after:Array Edge} {g:Option (Nat×Bool)}
end
structure An (b:Nat) (r:Option Nat) (w w':World):Prop where
 os:w'.os=w.os
 tape:w'.tape=w.tape
 output:w'.output=w.output
 size:w.heap.size<=w'.heap.size
 block:∀ k,k<w.heap.size->k≠b->some k≠r->w'.heap[k]?=w.heap[k]?
theorem An.below {b B:Nat} {r:Option Nat} {w w':World} (h:An b r w w') (hB:B<=w.heap.size) (hb:B<=b) (hr:∀ q,r=some q->B<=q):Below B w w':=
 ⟨h.os,h.tape,h.output,h.size,fun k hk=>h.block k (by omega) (by omega) (fun e=>by have:=hr k e.symm;omega)⟩
def Ara (w:World) (r r':Option Nat):Prop:=r'=r∨∃ q,r'=some q∧w.heap.size<=q
theorem An.trans {b:Nat} {r r':Option Nat} {w w1 w2:World} (h:An b r w w1) (k:An b r' w1 w2) (hr:Ara w r r'):An b r w w2:=
 ⟨k.os.trans h.os,k.tape.trans h.tape,k.output.trans h.output,Nat.le_trans h.size k.size,fun i hi h1 h2=>(k.block i (Nat.lt_of_lt_of_le hi h.size) h1 (by
  rcases hr with rfl | ⟨q,rfl,hq⟩
  ·exact h2
  ·intro e;have:=Option.some.inj e;omega)).trans (h.block i hi h1 h2)⟩
theorem An.ofBelow {b:Nat} {r:Option Nat} {w w':World} (h:Below w.heap.size w w'):An b r w w':=
 ⟨h.os,h.tape,h.output,h.size,fun k hk _ _=>h.block k hk⟩
theorem An.cell {b:Nat} {r:Option Nat} {w w':World} {a:Addr} {v:Value} (h:An b r w w') (hc:w.cell? a=some v) (h1:a.block≠b) (h2:some a.block≠r):w'.cell? a=some v:=
 (World.cell?_of_block (h.block a.block (World.block_lt_of_cell? w a hc) h1 h2)).trans hc
section
variable {P:Program} {ops:List Oper} {Fs:List VT} {w0:World} {a0:Act} {i:Nat} {d:Option Tmp} {ty:TypeId} {pos:String} {after:Array Edge} {g:Option (Nat×Bool)}
theorem Ob.nilV {x:Operand} {p:Addr} (hw:Aa ops Fs w0 a0 i ⟨d,.nilCheck x,ty,pos,after,g⟩) (hx:Has ops Fs w0 a0 i ⟨d,.nilCheck x,ty,pos,after,g⟩ x (Is (.pointer (some p)))):Ob P ops Fs w0 a0 i ⟨d,.nilCheck x,ty,pos,after,g⟩ (Is (.pointer (some p))):=
 Ob.stay hw fun a w cx=>⟨.pointer (some p),by
  have h1:a.eval x = .pointer (some p):=hx a w cx
  generalize a.eval=ρ at h1
  simp[execOp,h1],rfl⟩
end
theorem Mj {P:Program} {Q:Exit->Act->World->Prop} {ops:Array Oper} {rest:List Oper} {o:Oper} {a:Act} {w w':World} {ty:TypeId} {x y:Operand} {p v:Value} (hg:o.guard=none) (ho:o.op = .store ty x y) (hd:o.dst=none) (hx:a.eval x=p) (hy:a.eval y=v) (e:(Instr.storeAt ty p v).run P w = .ok () w') (h:wpList P ops Q rest a w'):wpList P ops Q (o::rest) a w:=
 wpList_plain hg fun _ hK=>On ho hd hx hy e (hK _ _ h)
theorem Ahv (l:List UInt8):strOfNums (l.map fun x=>(x.toNat:Int))=⟨⟨l⟩⟩:=by
 unfold strOfNums
 congr 1
 simp only[List.map_map]
 congr 1
 conv=>rhs;rw[<-List.map_id l]
 apply List.map_congr_left
 intro x _
 simp
theorem Qn {w:World} {A:Option Addr} {n c:Nat} {l:List UInt8} (h:Sl encB w A n c l):(convert 23 9 (.slice A n c)).run Tryz.prog w = .ok (Ac l) w:=by
 cases A with
 | none=>
  have hc:=h.nil rfl
  have hn:n=0:=by have:=h.cap;omega
  have hl:l=[]:=List.eq_nil_of_length_eq_zero (by have:=h.len;omega)
  subst hl
  exact run_convert_bytes_nil (P:=Tryz.prog) w _ 5 Tryz.underlying23 Tryz.underlying5 n c _ Tryz.underlying9
 | some a=>
  have hl:(loadCells a n).run Tryz.prog w = .ok ((l.map fun x=>(x.toNat:Int)).map (Value.int .u8)).toArray w:=by
   have:=run_loadCells_list (P:=Tryz.prog) w a ((l.map fun x=>(x.toNat:Int)).map (Value.int .u8)) (fun j v hj=>by
    simp only[List.getElem?_map,Option.map_eq_some_iff] at hj
    obtain⟨z,⟨x,hx,rfl⟩,rfl⟩:=hj
    obtain⟨b,o,e1,_,h1⟩:=h.cell j x hx
    cases e1
    have:=h1 0 (.int .u8 x.toNat) rfl
    rw[Bz]
    simpa [encB] using this)
   simpa [h.len] using this
  rw[run_convert_bytes_string w _ _ 5 _ n c Tryz.underlying23 Tryz.underlying5 Tryz.underlying9,run_bytesToString w a n c _ hl,foldl_push_bytes]
  have:=Ahv l
  unfold strOfNums at this
  have e:(ByteArray.empty).data = #[]:=rfl
  rw[e]
  simp only[Array.empty_append]
  exact congrArg (fun s=>Result.ok (Value.string s) w) this
structure Ce where
 op:Int
 key:List UInt8
 other:List UInt8
 item:List UInt8
 qty:Int
 data:List UInt8
 deriving DecidableEq
def Aq (c:Ce) (A:Option Addr) (n m:Nat):Value:=.agg #[.int .i64 c.op,Ac c.key,Ac c.other,Ac c.item,.int .i64 c.qty,.slice A n m]
theorem Sl.setN {α:Type} {e:Enc α} {w:World} {A:Option Addr} {n c N o:Nat} {l:List α} {u:Value} (h:Sl e w A n c l) (hn:∀ a,A=some a->a.block≠N):Sl e (w.setCell ⟨N,o,none⟩ u) A n c l:=
 ⟨h.len,h.cap,h.max,h.nil,fun i x hi=>by
  obtain⟨b,o',rfl,hlt,h1⟩:=h.cell i x hi
  have hne:b≠N:=hn _ rfl
  exact⟨b,o',rfl,by rw[World.size_setCell];exact hlt,fun j v hj=>Cs (fun e=>hne (congrArg Addr.block e).symm) (h1 j v hj)⟩⟩
theorem Ad9 {w w':World} {b o:Nat} {cs:List Value} (h:w.rangeAt b o cs) (hb:Below w.heap.size w w'):w'.rangeAt b o cs:=fun j v hj=>Ad hb (h j v hj)
theorem Sa {W:World} {g:Nat} (hg:W.heap.size<=g):∀ (vs:List Value) (o:Nat) (w:World),Below W.heap.size W w->Below W.heap.size W (w.setCells g o vs)
 | [],_,_,h=>h
 | v::r,o,w,h=>by
  rw[World.setCells]
  exact Sa hg r (o+1) _ (h.setCell (p:=⟨g,o,none⟩) hg v)
section
variable {w w':World} {g n z:Nat} {f:Nat->List Value}
end
theorem Sx (zc:Array Value) (hz:0<zc.size) (k j:Nat) (hj:j<k):(madeCells zc k)[j]?=zc[j % zc.size]?:=by
 have h1:j % zc.size<zc.size:=Nat.mod_lt _ hz
 simp[madeCells,hj,h1]
def Az (p:Prop):Prop:=p
theorem Az.go {p:Prop} (h:Az p):p:=h
theorem Jf {P:Program} {Q:Exit->Act->World->Prop} {ops:Array Oper} {rest:List Oper} {a:Act} {W X:World} (e:W=X) (h:wpList P ops Q rest a W):wpList P ops Q rest a X:=e ▸ h
theorem Ip (w:World) (zc:Array Value) (e:TypeId):(w.alloc (.cells zc e)).there w.heap.size 0 zc.size:=fun j hj=>by
 rw[Nat.zero_add]
 exact⟨by rw[cell_of_row _ _ _ _ e (0,0) (heap_alloc_new w _)];simp[hj],frozen_of_row _ _ _ _ e (heap_alloc_new w _)⟩
theorem Ale (w:World) (zc:Array Value) (e:TypeId) (cs:List Value) (hl:zc.size=cs.length) :
  Below w.heap.size w ((w.alloc (.cells zc e)).setCells w.heap.size 0 cs)∧((w.alloc (.cells zc e)).setCells w.heap.size 0 cs).rangeAt w.heap.size 0 cs:=
 ⟨Sa (Nat.le_refl _) cs 0 _ ((Below.refl _ _).alloc (Nat.le_refl _) _),World.rangeAt_setCells_same _ _ _ cs (by rw[<-hl];exact Ip w zc e)⟩
def Fr (l:List UInt8) (i:Nat):Nat:=(l.getD i 0).toNat
theorem Sl.grownOff {α:Type} {e:Enc α} {w w':World} {A:Option Addr} {n c:Nat} {l:List α} {r:Option Nat} (h:Sl e w A n c l) (hg:w.grownBy w' r) (ho:∀ a,A=some a->some a.block≠r):Sl e w' A n c l:=
 ⟨h.len,h.cap,h.max,h.nil,fun i x hi=>by
  obtain⟨b,o,rfl,hb,h1⟩:=h.cell i x hi
  exact⟨b,o,rfl,Nat.lt_of_lt_of_le hb hg.size,fun j u hj=>hg.cell (h1 j u hj) (ho ⟨b,o,none⟩ rfl)⟩⟩
section
variable {w w':World} {B:Nat} {u:Value}
theorem Sl.wrote {α:Type} {e:Enc α} {A:Option Addr} {n c N:Nat} {l:List α} (h:Sl e w A n c l) (hw:An N none w w') (hn:∀ a,A=some a->a.block≠N):Sl e w' A n c l:=
 ⟨h.len,h.cap,h.max,h.nil,fun i x hi=>by
  obtain⟨b,o,rfl,hb,h1⟩:=h.cell i x hi
  exact⟨b,o,rfl,Nat.lt_of_lt_of_le hb hw.size,fun j u hj=>hw.cell (h1 j u hj) (hn ⟨b,o,none⟩ rfl) (by simp)⟩⟩
theorem Ag.wrote {α:Type} {e:Enc α} {ty:TypeId} {N:Nat} {l:List α} (h:Ag e ty w B u l) (hw:An N none w w') (hN:N<B):Ag e ty w' B u l:=by
 refine⟨h.1,?_⟩
 rcases h.2 with h2 | ⟨g,cap,cur,hv,hg,hh,r⟩
 ·exact .inl h2
 ·exact .inr ⟨g,cap,cur,hv,hg,(hw.block g (Array.getElem?_eq_some_iff.1 hh).1 (by omega) (by simp)).trans hh,r⟩
end
theorem Ae {B:Nat} {w w1 w2:World} (h:Below B w w1) (k:Below B w1 w2):Below B w w2:=⟨k.os.trans h.os,k.tape.trans h.tape,k.output.trans h.output,Nat.le_trans h.size k.size,fun i hi=>(k.block i hi).trans (h.block i hi)⟩
theorem Ak {B C:Nat} {w w':World} (h:Below C w w') (hB:B<=C):Below B w w':=⟨h.os,h.tape,h.output,h.size,fun k hk=>h.block k (by omega)⟩
theorem An.le {N:Nat} {r:Option Nat} {w w1 w2:World} (h:An N r w w1) (hb:Below w.heap.size w1 w2):An N r w w2:=
 ⟨hb.os.trans h.os,hb.tape.trans h.tape,hb.output.trans h.output,Nat.le_trans h.size hb.size,fun k hk h1 h2=>(hb.block k hk).trans (h.block k hk h1 h2)⟩
structure Bx (w:World) (J:Nat) (cs:List Value):Prop where
 rng:w.rangeAt J 0 cs
 th:w.there J 0 cs.length
 lt:J<w.heap.size
section
variable {w w':World} {J N B:Nat} {cs:List Value}
theorem Bx.same (h:Bx w J cs) (hb:w'.heap[J]?=w.heap[J]?) (hs:w.heap.size<=w'.heap.size):Bx w' J cs:=
 ⟨fun j v hj=>(World.cell?_of_block (a:=⟨J,0+j,none⟩) hb).trans (h.rng j v hj),fun j hj=>by
  rw[World.cell?_of_block (a:=⟨J,0+j,none⟩) hb,World.frozen?_of_block (a:=⟨J,0+j,none⟩) hb];exact h.th j hj,Nat.lt_of_lt_of_le h.lt hs⟩
theorem Bx.mono (h:Bx w J cs) (hb:Below w.heap.size w w'):Bx w' J cs:=h.same (hb.block J h.lt) hb.size
theorem Bx.wrote {r:Option Nat} (h:Bx w J cs) (hw:An N r w w') (hn:J≠N) (hr:some J≠r):Bx w' J cs:=h.same (hw.block J h.lt hn hr) hw.size
theorem Bx.new (w:World) (cs:Array Value) (ty:TypeId):Bx (w.alloc (.cells cs ty)) w.heap.size cs.toList:=by
 refine⟨fun j v hj=>?_,fun j hj=>⟨?_,frozen_of_row _ _ _ _ ty (heap_alloc_new w _)⟩,(Array.getElem?_eq_some_iff.1 (heap_alloc_new w _)).1⟩
 ·rw[Nat.zero_add,cell_of_row _ _ _ _ ty (0,0) (heap_alloc_new w _),<-Array.getElem?_toList];exact hj
 ·rw[Nat.zero_add,cell_of_row _ _ _ _ ty (0,0) (heap_alloc_new w _)];simpa using hj
theorem Bx.cell (h:Bx w J cs) (j:Nat) {v:Value} (hj:cs[j]?=some v):w.cell? ⟨J,j,none⟩=some v:=by
 have:=h.rng j v hj
 rwa [Nat.zero_add] at this
theorem Bx.fr (h:Bx w J cs) (j:Nat) (hj:j<cs.length):w.frozen? ⟨J,j,none⟩=false:=by
 have:=(h.th j hj).2
 rwa [Nat.zero_add] at this
structure Upd (J:Nat) (w w':World):Prop where
 os:w'.os=w.os
 tape:w'.tape=w.tape
 output:w'.output=w.output
 size:w'.heap.size=w.heap.size
 block:∀ k,k≠J->w'.heap[k]?=w.heap[k]?
theorem Upd.below (h:Upd J w w') (hB:B<=J):Below B w w':=⟨h.os,h.tape,h.output,Nat.le_of_eq h.size.symm,fun k hk=>h.block k (by omega)⟩
theorem Upd.wrote (h:Upd J w w'):An J none w w':=⟨h.os,h.tape,h.output,Nat.le_of_eq h.size.symm,fun k _ hk _=>h.block k hk⟩
theorem Upd.bx {K:Nat} {ds:List Value} (h:Upd J w w') (hb:Bx w K ds) (hn:K≠J):Bx w' K ds:=hb.same (h.block K hn) (Nat.le_of_eq h.size.symm)
theorem G7 (J:Nat):∀ (cs:List Value) (o:Nat) (w:World),Upd J w (w.setCells J o cs)
 | [],_,_=>⟨rfl,rfl,rfl,rfl,fun _ _=>rfl⟩
 | v::r,o,w=>by
  rw[World.setCells]
  have h:=G7 J r (o+1) (w.setCell ⟨J,o,none⟩ v)
  exact⟨h.os.trans rfl,h.tape.trans rfl,h.output.trans rfl,h.size.trans (by simp),fun k hk=>(h.block k hk).trans (by unfold World.setCell;simp[Array.getElem?_modify];intro e;exact absurd e.symm hk)⟩
end
theorem Iw {w:World} (J o:Nat) (v:Value):Upd J w (w.setCell ⟨J,o,none⟩ v):=G7 J [v] o w
theorem Aml {P:Program} {w:World} {J:Nat} {cs:List Value} {ty:TypeId} {d:TypeDesc} (h:Bx w J cs) (hu:P.underlying ty=some d) (hd:d.isRow=true) (hi:(P.info? ty).map (·.size)=some cs.length):(Instr.loadAt ty (.pointer (some ⟨J,0,none⟩))).run P w = .ok (.agg cs.toArray) w:=
 run_loadAt_mid (P:=P) w J 0 ty cs d h.rng hu hd hi
theorem Ai {P:Program} {ops:Array Oper} {rest:List Oper} {a:Act} {w:World} {Q:Exit->Act->World->Prop} {ty t2:TypeId} {x y:Operand} {d:Option Tmp} {pos:String} {after:Array Edge} {g:Option (Nat×Bool)} (J:Nat) (hx:a.eval x = .pointer (some ⟨J,0,none⟩)) (h:Az (wpList P ops Q (⟨d,.store ty x y,t2,pos,after,g⟩::rest) a w)):wpList P ops Q (⟨d,.store ty x y,t2,pos,after,g⟩::rest) a w:=(fun _=>h) hx
theorem Af {P:Program} {ops:Array Oper} {rest:List Oper} {op:Oper} {a:Act} {w:World} {Q:Exit->Act->World->Prop} {ty:TypeId} {x y:Operand} {J:Nat} {old:List Value} {cells:Array Value} (hgd:op.guard=none) (ho:op.op = .store ty x y) (hd:op.dst=none) (hx:a.eval x = .pointer (some ⟨J,0,none⟩)) (hy:a.eval y = .agg cells)
  (hb:Bx w J old) (hi:(P.info? ty).map (·.size)=some cells.size) (hl:old.length=cells.size) (h1:cells.all (·.oneCell')=true)
  (h:∀ w',Bx w' J cells.toList->Upd J w w'->wpList P ops Q rest a w'):wpList P ops Q (op::rest) a w:=by
 have hth:w.there J 0 cells.size:=by rw[<-hl];exact hb.th
 have e:=run_storeAt_mid (P:=P) w J 0 ty cells hth hi h1
 have u:=G7 J cells.toList 0 w
 refine Mj hgd ho hd hx hy e (h _ ⟨?_,?_,?_⟩ u)
 ·exact World.rangeAt_setCells_same w J 0 cells.toList (by simpa using hth)
 ·exact World.there_setCells (by simpa using hth) _ _ _
 ·rw[u.size];exact hb.lt
theorem D5 {P:Program} {w:World} {J:Nat} {cs:List Value} {ty:TypeId} {d:TypeDesc} {fn:Func} {t:Tmp} {tmps:Array Value} (h:fn.results = #[.cell t ty]) (hp:tmps.getD t undef = .pointer (some ⟨J,0,none⟩)) (hb:Bx w J cs) (hu:P.underlying ty=some d) (hd:d.isRow=true) (hi:(P.info? ty).map (·.size)=some cs.length):(results fn tmps).run P w = .ok (.agg cs.toArray) w:=by
 have L:=run_loadVar_mid (P:=P) w J 0 ty cs d hb.rng hu hd hi
 rw[Array.getD_eq_getD_getElem?] at hp
 simp[results,h,hp,asAddr,L]
theorem Ah {P:Program} {w:World} {J:Nat} {cs:List Value} {ty:TypeId} {d:TypeDesc} {fn:Func} {t s:Tmp} {tmps:Array Value} {v:Value} (h:fn.results = #[.cell t ty,.tmp s]) (hp:tmps.getD t undef = .pointer (some ⟨J,0,none⟩)) (hs:tmps.getD s undef=v) (hb:Bx w J cs) (hu:P.underlying ty=some d) (hd:d.isRow=true) (hi:(P.info? ty).map (·.size)=some cs.length):(results fn tmps).run P w = .ok (.tuple #[.agg cs.toArray,v]) w:=by
 have L:=run_loadVar_mid (P:=P) w J 0 ty cs d hb.rng hu hd hi
 rw[Array.getD_eq_getD_getElem?] at hp hs
 simp[results,h,hp,hs,asAddr,L]
structure De (B R:Nat) (l:List UInt8) (k:Nat) (w:World):Prop where
 c0:w.cell? ⟨R,0,none⟩=some (.bool true)
 row:∃ A c,w.cell? ⟨R,1,none⟩=some (.slice A l.length c)∧Sl encB w A l.length c l∧∀ a,A=some a->a.block≠R∧a.block<B
 c2:w.cell? ⟨R,2,none⟩=some (.int .i64 k)
 fr:w.frozen? ⟨R,2,none⟩=false
 lt:R<B
 le:k<=l.length
section
variable {w w':World} {B R k:Nat} {l:List UInt8}
theorem De.keep (h:De B R l k w) (hb:Below B w w') (hB:B<=w.heap.size):De B R l k w':=by
 obtain⟨h0,⟨A,c,h1,h2,h3⟩,h4,h5,h6,h7⟩:=h
 refine⟨(hb.cell (p:=⟨R,0,none⟩) h6).trans h0,⟨A,c,(hb.cell (p:=⟨R,1,none⟩) h6).trans h1,⟨h2.len,h2.cap,h2.max,h2.nil,fun i x hi=>?_⟩,h3⟩,(hb.cell (p:=⟨R,2,none⟩) h6).trans h4,(hb.frozen (p:=⟨R,2,none⟩) h6).trans h5,h6,h7⟩
 obtain⟨b,o,rfl,_,h8⟩:=h2.cell i x hi
 have hbl:b<B:=(h3 ⟨b,o,none⟩ rfl).2
 exact⟨b,o,rfl,Nat.lt_of_lt_of_le hbl (Nat.le_trans hB hb.size),fun j u hj=>(hb.cell (p:=⟨b,_,none⟩) hbl).trans (h8 j u hj)⟩
theorem De.set_ (h:De B R l k w) {j:Nat} (hj:j<=l.length):De B R l j (w.setCell ⟨R,2,none⟩ (.int .i64 j)):=by
 obtain⟨h0,⟨A,c,h1,h2,h3⟩,h4,h5,h6,h7⟩:=h
 refine⟨Cs (by simp) h0,⟨A,c,Cs (by simp) h1,h2.setN (fun a e=>(h3 a e).1),h3⟩,Ca h4,(World.frozen?_setCell _ _ _ _).trans h5,h6,hj⟩
theorem De.size (h:De B R l k w):R<w.heap.size:=World.block_lt_of_cell? w _ h.c0
theorem De.big (h:De B R l k w):l.length<=9223372036854775807:=by
 obtain⟨A,c,_,h2,_⟩:=h.row
 exact h2.big
end
def Ap7 (B:Nat) (l:List UInt8) (w:World) (v:Value):Prop:=∃ A c,v = .slice A l.length c∧Sl encB w A l.length c l∧(∀ a,A=some a->a.block<B)
theorem Sl.fromI {w:World} {A:Option Addr} {n c:Nat} {l:List UInt8} (h:Sl encB w A n c l) {k:Nat} (hk:k<=n) {b o:Nat} (hA:A=some ⟨b,o,none⟩):Sl encB w (if c=k then some ⟨b,o,none⟩ else some ⟨b,o+k,none⟩) (n - k) (c - k) (l.drop k):=by
 subst hA
 split
 ·next hc=>
  have hcap:=h.cap
  have hz:l.drop k=[]:=List.drop_eq_nil_of_le (by have:=h.len;omega)
  rw[hz]
  exact⟨by simp;omega,by omega,by have:=h.max;omega,(fun e=>nomatch e),fun i x hi=>by simp at hi⟩
 ·refine⟨by rw[List.length_drop,<-h.len],by have:=h.cap;omega,by have:=h.max;omega,(fun e=>nomatch e),fun i x hi=>?_⟩
  rw[List.getElem?_drop] at hi
  obtain⟨b',o',e,hlt,h1⟩:=h.cell _ x hi
  cases e
  refine⟨b,o+k,rfl,hlt,fun j u hj=>?_⟩
  have:=h1 j u hj
  have e2:o+(k+i)*encB.z+j=o+k+i*encB.z+j:=by simp[encB];omega
  rw[e2] at this
  exact this
def Np (A:Option Addr) (c k:Nat):Option Addr:=if c=k then A else A.map (·.add k)
theorem Jx {w:World} {A:Option Addr} {n c k:Nat} (h:k<=n) (hc:n<=c):(Instr.sliceAt 23 (.slice A n c) (some (.int .i64 (k:Int))) none none).run Tryz.prog w = .ok (.slice (Np A c k) (n - k) (c - k)) w:=by
 have h1:(0:Int)<=(k:Int):=by omega
 have h2:(k:Int)<=(n:Int):=by omega
 have h3:(n:Int)<=(c:Int):=by omega
 unfold Np
 simp[go_sem,h1,h2]
theorem Sl.cutB_ {w:World} {A:Option Addr} {n c:Nat} {l:List UInt8} (h:Sl encB w A n c l) {k:Nat} (hk:k<=n):Sl encB w (Np A c k) (n - k) (c - k) (l.drop k):=by
 cases A with
 | none=>
  have h1:=h.nil rfl
  have h2:=h.cap
  have h3:=h.len
  have hz:l=[]:=List.eq_nil_of_length_eq_zero (by omega)
  subst hz
  have e:Np none c k=none:=by unfold Np;split <;> rfl
  rw[e]
  exact⟨by simp;omega,by omega,by have:=h.max;omega,fun _=>by omega,fun i x hi=>by simp at hi⟩
 | some a=>
  obtain⟨b,o,sp⟩:=a
  by_cases hl:l=[]
  ·subst hl
   have h3:n=0:=h.len
   have hd:([]:List UInt8).drop k=[]:=by simp
   rw[hd]
   exact⟨by simp;omega,by have:=h.cap;omega,by have:=h.max;omega,(fun e=>by unfold Np at e;split at e <;> cases e),fun i x hi=>by simp at hi⟩
  ·obtain⟨x,t,e⟩:=List.exists_cons_of_ne_nil hl
   obtain⟨b',o',e2,_⟩:=h.cell 0 x (by rw[e];rfl)
   cases e2
   have:=h.fromI hk rfl
   unfold Np
   simp only[Option.map_some,Bz]
   exact this
theorem Aag {A:Option Addr} {c k:Nat} {P:Nat->Prop} (h:∀ a,A=some a->P a.block):∀ a,Np A c k=some a->P a.block:=fun a e=>by
 unfold Np at e
 split at e
 ·exact h a e
 ·cases A with
  | none=>cases e
  | some x=>
   obtain⟨b,o,sp⟩:=x
   have:=h _ rfl
   simp only[Option.map_some,Option.some.injEq] at e
   subst e
   unfold Addr.add
   split <;> exact this
section
variable {ops:List Oper} {Fs:List VT} {w0:World} {a0:Act} {i:Nat} {d:Option Tmp} {ty:TypeId} {pos:String} {after:Array Edge} {g:Option (Nat×Bool)}
theorem Ob.sliceFromB {x y:Operand} {A:Option Addr} {n c k:Nat} (hw:Aa ops Fs w0 a0 i ⟨d,.slice 23 x (some y) none none,ty,pos,after,g⟩) (hx:Has ops Fs w0 a0 i ⟨d,.slice 23 x (some y) none none,ty,pos,after,g⟩ x (Is (.slice A n c))) (hy:Has ops Fs w0 a0 i ⟨d,.slice 23 x (some y) none none,ty,pos,after,g⟩ y (IsI (k:Int))) (h:k<=n) (hc:n<=c) :
  Ob Tryz.prog ops Fs w0 a0 i ⟨d,.slice 23 x (some y) none none,ty,pos,after,g⟩ (Is (.slice (Np A c k) (n - k) (c - k))):=
 Ob.stay hw fun a w cx=>⟨_,by
  have h1:a.eval x = .slice A n c:=hx a w cx
  have h2:a.eval y = .int .i64 (k:Int):=hy a w cx
  have h3:=Jx (w:=w) (A:=A) h hc
  generalize a.eval=ρ at h1 h2
  simp[execOp,h1,h2,h3],rfl⟩
end
theorem An1 {w:World} {R:Nat}:(Instr.fieldAt 385 (.pointer (some ⟨R,0,none⟩)) 1).run Tryz.prog w = .ok (.pointer (some ⟨R,1,none⟩)) w:=by simp[go_sem]
theorem Akd {w:World} {R:Nat}:(Instr.fieldAt 385 (.pointer (some ⟨R,0,none⟩)) 2).run Tryz.prog w = .ok (.pointer (some ⟨R,2,none⟩)) w:=by simp[go_sem]
theorem Als {w0 w:World} {R n c:Nat} {A:Option Addr} (hb:Below w0.heap.size w0 w) (h:w0.cell? ⟨R,1,none⟩=some (.slice A n c)):(Instr.loadAt 23 (.pointer (some ⟨R,1,none⟩))).run Tryz.prog w = .ok (.slice A n c) w:=by
 have c1:=Ad hb h
 simp[go_sem,c1]
theorem Ao5 {w0 w:World} {R:Nat} {k:Int} (hb:Below w0.heap.size w0 w) (h:w0.cell? ⟨R,2,none⟩=some (.int .i64 k)):(Instr.loadAt 3 (.pointer (some ⟨R,2,none⟩))).run Tryz.prog w = .ok (.int .i64 k) w:=by
 have c1:=Ad hb h
 simp[go_sem,c1]
theorem Adm {B R k:Nat} {l:List UInt8} {w:World} (h:De B R l k w):Calls Tryz.prog 310 #[.pointer (some ⟨R,0,none⟩)] w (Ret w (Ap7 B (l.drop k))):=by
 obtain⟨A,c,h1,h2,h3⟩:=h.row
 have c2:=h.c2
 have hk:=h.le
 have hcap:=h2.cap
 have S:=Avp h2;have D:=Avp h3;have C1:=Avp h1;have C2:=Avp c2;have HK:=Avp hk;have HC:=Avp hcap
 clear h h2 h3 h1 c2 hk hcap
 go_enter Tryz.func310,Tryz.ntmps310
 go_wp2
 refine Am mixed (by kernel_rfl) ?_
 refine Ab.step (Ob.move Aa.free Has.oldIs) ?_
 refine Ab.step (Ob.nilV Aa.free (Has.new 0 0)) ?_
 refine Ab.step (Ob.fieldV Aa.free (Has.new 1 0) (fun w1=>An1)) ?_
 refine Ab.step (Ob.loadV Aa.free (Has.new 2 0) (fun w1 hb1=>Als hb1 C1.out)) ?_
 refine Ab.step (Ob.move Aa.free Has.oldIs) ?_
 refine Ab.step (Ob.nilV Aa.free (Has.new 4 0)) ?_
 refine Ab.step (Ob.fieldV Aa.free (Has.new 5 0) (fun w1=>Akd)) ?_
 refine Ab.step (Ob.loadV Aa.free (Has.new 6 0) (fun w1 hb1=>Ao5 hb1 C2.out)) ?_
 refine Ab.step (Ob.sliceFromB Aa.free (Has.new 3 4) (Has.new 7 0) HK.out HC.out) ?_
 refine Ab.step (Ob.assign Aa.free (Has.new 8 0)) ?_
 simp only[Ab,Ao,List.map,Bq,List.reverse_cons,List.reverse_nil,List.nil_append,List.cons_append]
 intro wE hE
 iterate 10 (rintro _ rfl)
 simp only[Act.put,List.setIfInBounds_toArray,List.set_cons_zero,List.set_cons_succ]
 go_wp2
 go_ret
 have s:=(S.out.mono hE).cutB_ HK.out
 rw[show l.length - k=(l.drop k).length by rw[List.length_drop]] at s
 exact⟨_,rfl,hE,_,_,(by show Value.slice (Np A c k) (l.length - k) (c - k)=_;rw[List.length_drop]),s,Aag (P:=fun b=>b<B) (fun a e=>(D.out a e).2)⟩
def Dq:List UInt8->Nat->Int
 | [],_=>-1
 | x::t,k=>if x.toNat<128 then (k:Int) else Dq t (k+1)
theorem Ls:∀ (l:List UInt8) (k:Nat),Dq l k<(k:Int)+l.length∧-1<=Dq l k∧(Dq l k<0∨(k:Int)<=Dq l k)
 | [],k=>by simp[Dq];omega
 | x::t,k=>by
  unfold Dq
  have h:=Ls t (k+1)
  split
  ·simp;omega
  ·simp only[List.length_cons];omega
def Arl (w:World) (r:List UInt8) (n:Nat) (i:Value) (wr:World):Prop:=∃ k:Nat,i = .int .i64 k∧k<=n∧Below w.heap.size w wr∧Dq r 0=Dq (r.drop k) k
theorem Auq {A:Option Addr} {n c:Nat} {r:List UInt8} {w:World} (h:Sl encB w A n c r):Calls Tryz.prog 378 #[.slice A n c,.func (.func 379) #[] #[]] w (Ret w (IsI (Dq r 0))):=by
 have hbig:=h.big
 have H:=Avp h;have HL:=Avp h.len
 clear h
 go_enter Tryz.func378,Tryz.ntmps378
 go_wp2
 go_loopw [8] (fun i wr=>Arl w r n i wr) (fun i _=>n - (intOf i).toNat)
 case atStart=>exact⟨0,rfl,Nat.zero_le _,Below.refl _ _,by simp⟩
 case round=>
  obtain⟨k,rfl,hk,hb,hs⟩:=hrel
  have HS:=Avp hs;have HB:=Avp hb
  clear hs
  by_cases hlt:k<n
  ·obtain⟨b,o,x,rfl,hbs,h1,d1,e1⟩:=(H.out.mono hb).byte hlt
   have D1:=Avp d1
   clear h1 d1 hb
   by_cases hx:x.toNat<128
   ·have hx':((x.toNat:Nat):Int)<128:=by omega
    go_wp2
    go_ret
    refine Gz ?_ HB.out
    rw[HS.out,D1.out,Dq,if_pos hx]
   ·have hx':¬((x.toNat:Nat):Int)<128:=by omega
    go_wp2
    exact⟨⟨k+1,by simp,by omega,HB.out,by rw[HS.out,D1.out,Dq,if_neg hx]⟩,by simp[intOf];omega⟩
  ·have hge:¬(k:Int)<(n:Int):=by omega
   have hd:r.drop k=[]:=List.drop_eq_nil_of_le (by have:=HL.out;omega)
   go_wp2
   go_ret
   exact Gz (by rw[HS.out,hd,Dq]) HB.out
def Hr (r:List UInt8):Nat->Nat->Nat
 | 0,n=>n
 | i+1,n=>Hr r i ((n*128 % 18446744073709551616) ||| (Fr r i % 128))
def Fm (r:List UInt8):Int×Nat×Nat:=
 let e:=Dq (r.take 10) 0
 if e<0 then (if r.length<10 then (4,0,0) else (12,0,0))
 else if (0<e∧Fr r e.toNat=0)∨(e=9∧1<Fr r e.toNat) then (12,0,0)
 else (0,Hr r (e.toNat+1) 0,e.toNat+1)
theorem Zb (r:List UInt8):∀ (i n:Nat),n<18446744073709551616->Hr r i n<18446744073709551616
 | 0,n,h=>h
 | i+1,n,h=>by
  unfold Hr
  refine Zb r i _ ?_
  have h1:n*128 % 18446744073709551616<2 ^ 64:=Nat.mod_lt _ (by decide)
  have h2:Fr r i % 128<2 ^ 64:=Nat.lt_of_lt_of_le (Nat.mod_lt _ (by decide)) (by decide)
  exact Nat.or_lt_two_pow h1 h2
theorem Tx (r:List UInt8):(Fm r).2.2<=r.length:=by
 unfold Fm
 have h:=Ls (r.take 10) 0
 simp only[List.length_take] at h
 dsimp only
 split
 ·split <;> simp
 ·split
  ·simp
  ·simp only;omega
theorem Ack (r:List UInt8):(Fm r).2.1<18446744073709551616:=by
 unfold Fm
 dsimp only
 split
 ·split <;> decide
 ·split
  ·decide
  ·exact Zb r _ 0 (by decide)
theorem Sl.take_ {α:Type} {e:Enc α} {w:World} {A:Option Addr} {n c m:Nat} {l:List α} (h:Sl e w A n c l) (hm:m<=n):Sl e w A m c (l.take m):=
 ⟨by rw[List.length_take];have:=h.len;omega,by have:=h.cap;omega,h.max,h.nil,fun i x hi=>by
  rw[List.getElem?_take] at hi
  split at hi
  ·exact h.cell i x hi
  ·cases hi⟩
def Af6 (B R:Nat) (l:List UInt8) (k:Nat) (w:World) (e:Ending) (w':World):Prop:=
 e = .returned (.tuple #[.int .u64 ((Fm (l.drop k)).2.1:Nat),.int .i64 (Fm (l.drop k)).1])∧An R none w w'∧De B R l (k+(Fm (l.drop k)).2.2) w'
theorem An.setAny {b:Nat} {r:Option Nat} {w w':World} {o:Nat} (h:An b r w w') (u:Value):An b r w (w'.setCell ⟨b,o,none⟩ u):=
 ⟨h.os,h.tape,h.output,by rw[World.size_setCell];exact h.size,fun k hk h1 h2=>((Iw (w:=w') b o u).block k h1).trans (h.block k hk h1 h2)⟩
theorem Aea:∀ y:Nat,y<256->Go.bits .andNot .u8 (y:Int) 128=((y % 128:Nat):Int):=by decide +kernel
theorem Anr {acc y:Nat} (hy:y<256):Go.bits .or .u64 (IntKind.u64.wrap ((acc:Int)*128)) (IntKind.u64.wrap (Go.bits .andNot .u8 (y:Int) 128))=(((acc*128 % 18446744073709551616) ||| (y % 128):Nat):Int):=by
 have h1:IntKind.u64.wrap ((acc:Int)*128)=((acc*128 % 18446744073709551616:Nat):Int):=by simp only[IntKind.wrap_u64];omega
 rw[h1,Aea y hy,wrap_u64 (by omega)]
 exact Aqe (Nat.mod_lt _ (by decide)) (by omega)
theorem Ab8 {acc y:Nat}:((acc*128 % 18446744073709551616) ||| (y % 128))<18446744073709551616:=
 Nat.or_lt_two_pow (n:=64) (Nat.mod_lt _ (by decide)) (Nat.lt_of_lt_of_le (Nat.mod_lt _ (by decide)) (by decide))
theorem Kg {w wr:World} {r:List UInt8} {v i j acc:Nat} {y:UInt8} (hj:j<=i) (hbw:Below w.heap.size w wr) (hv:v=Hr r (j+1) acc) (hy:Fr r j=y.toNat) :
  ∃ j' acc':Nat,((j'=0∧Value.int .i64 ((j:Int) - 1) = .int .i64 (-1))∨∃ q:Nat,j'=q+1∧Value.int .i64 ((j:Int) - 1) = .int .i64 q)∧Value.int .u64 (Go.bits .or .u64 (IntKind.u64.wrap ((acc:Int)*128)) (IntKind.u64.wrap (Go.bits .andNot .u8 (y.toNat:Int) 128))) = .int .u64 acc'∧acc' < 18446744073709551616∧j'<=i+1∧Below w.heap.size w wr∧v=Hr r j' acc':=by
 refine⟨j,_,?_,by rw[Anr y.toNat_lt],Ab8,by omega,hbw,by rw[hv,Hr,hy]⟩
 cases j with
 | zero=>exact .inl ⟨rfl,rfl⟩
 | succ q=>exact .inr ⟨q,rfl,by congr 1;omega⟩
def Aai (w:World) (r:List UInt8) (v:Nat) (i:Nat) (a s:Value) (wr:World):Prop:=
 ∃ j acc:Nat,((j=0∧s = .int .i64 (-1))∨∃ q:Nat,j=q+1∧s = .int .i64 q)∧a = .int .u64 acc∧acc<18446744073709551616∧j<=i+1∧Below w.heap.size w wr∧v=Hr r j acc
theorem Anv {B R k:Nat} {l:List UInt8} {w:World} (h:De B R l k w) (hB:B<=w.heap.size):Calls Tryz.prog 304 #[.pointer (some ⟨R,0,none⟩)] w (Af6 B R l k w):=by
 have C:=Avp (Adm h)
 have H:=Avp h;have HB:=Avp hB
 clear h hB
 unfold Af6
 have hu:=Tx (l.drop k)
 rw[List.length_drop] at hu
 have HU:=Avp hu
 clear hu
 generalize hr:l.drop k=r at *
 have HR:=Avp hr
 clear hr
 go_enter Tryz.func304,Tryz.ntmps304
 go_wp2_with fail
 refine C.out.mono ?_
 rintro _ w1 ⟨_,rfl,hb1,A,c,rfl,hs,hA⟩
 have hbig:=hs.big
 have S1:=Avp hs;have B1:=Avp hb1
 have H1:=Avp (H.out.keep (Ak hb1 HB.out) HB.out)
 clear hs hA C
 obtain⟨n,hn⟩:∃ n,n=r.length:=⟨_,rfl⟩
 rw[<-hn] at S1 hbig ⊢
 have HN:=Avp hn
 clear hn
 obtain⟨m,hm⟩:∃ m:Nat,m=min n 10:=⟨_,rfl⟩
 have HM:=Avp hm
 have mi:min (n:Int) 10=(m:Int):=by omega
 have hmn:m<=n:=by omega
 have hmc:m<=c:=Nat.le_trans hmn S1.out.cap
 clear hm
 have LW:=Avp (fun(w2:World) (hb:Below w1.heap.size w1 w2)=>Auq ((S1.out.take_ hmn).mono hb))
 go_wp2_with fail
 refine(LW.out _ (by go_grown)).mono ?_
 rintro _ w2 ⟨_,rfl,hb2,rfl⟩
 have ht:r.take m=r.take 10:=by
  have h1:=HM.out;have h2:=HN.out
  rcases Nat.le_total n 10 with h | h
  ·rw[h1,Nat.min_eq_left h,List.take_of_length_le (by omega),List.take_of_length_le (by omega)]
  ·rw[h1,Nat.min_eq_right h]
 rw[ht]
 have hlow:=Ls (r.take 10) 0
 rw[<-ht,List.length_take] at hlow
 have NS:=Avp (show Fm r=_ from rfl)
 rw[<-ht]
 have NT:=Avp ht
 have B2:=Avp (show Below w1.heap.size w1 w2 from hb2)
 have S2:=Avp (S1.out.mono hb2)
 have H2:=Avp (H1.out.keep (Ak hb2 (by have:=B1.out.size;have:=HB.out;omega)) (by have:=B1.out.size;have:=HB.out;omega))
 have BB:=Avp (B1.out.le hb2)
 have EX:=Avp (show Dq (r.take 10) 0=Dq (r.take m) 0 by rw[ht])
 generalize he:Dq (r.take m) 0=e at *
 have HE:=Avp he
 clear he ht hb1 hb2 LW mi hmc
 have hem:e<(m:Int):=by have:=hlow.1;simp at this;omega
 have heg:-1<=e:=hlow.2.1
 clear hlow
 by_cases hneg:e<0
 ·by_cases h10:n<10
  ·have h10':(n:Int)<10:=by omega
   have E:=Avp (show Fm r=(4,0,0) by unfold Fm;dsimp only;rw[EX.out,if_pos hneg,if_pos (by have:=HN.out;omega)])
   clear hem heg
   go_wp2
   refine bodyPost_ret (v:=.tuple #[.int .u64 0,.int .i64 4]) (by simp[results,Tryz.results304,go_sem]) rfl ?_
   rw[E.out]
   exact⟨rfl,An.ofBelow BB.out,H2.out⟩
  ·have h10':¬(n:Int)<10:=by omega
   have E:=Avp (show Fm r=(12,0,0) by unfold Fm;dsimp only;rw[EX.out,if_pos hneg,if_neg (by have:=HN.out;omega)])
   clear hem heg
   go_wp2
   refine bodyPost_ret (v:=.tuple #[.int .u64 0,.int .i64 12]) (by simp[results,Tryz.results304,go_sem]) rfl ?_
   rw[E.out]
   exact⟨rfl,An.ofBelow BB.out,H2.out⟩
 ·obtain⟨i,rfl⟩:=Int.eq_ofNat_of_zero_le (show 0<=e by omega)
  have him:i<m:=by omega
  have hi9:i<=9:=by have:=HM.out;omega
  obtain⟨b,o,x,rfl,hbs,h1,d1,e1⟩:=S2.out.byte (i:=i) (by omega)
  have hxb:Fr r i=x.toNat:=by unfold Fr;rw[List.getD_eq_getElem?_getD,h1];rfl
  have XB:=Avp hxb
  have hin:i<n:=by omega
  clear h1 d1 hxb hem heg
  have hbad:((0<i∧x.toNat=0)∨(i=9∧1<x.toNat))∨¬((0<i∧x.toNat=0)∨(i=9∧1<x.toNat)):=Classical.em _
  have E0:=Avp (show((0<i∧x.toNat=0)∨(i=9∧1<x.toNat))->Fm r=(12,0,0) from fun hb=>by
   unfold Fm;dsimp only;rw[EX.out,if_neg hneg,if_pos (by simp only[Int.toNat_natCast,XB.out];omega)])
  have E1:=Avp (show ¬((0<i∧x.toNat=0)∨(i=9∧1<x.toNat))->Fm r=(0,Hr r (i+1) 0,i+1) from fun hb=>by
   unfold Fm;dsimp only;rw[EX.out,if_neg hneg,if_neg (by simp only[Int.toNat_natCast,XB.out];omega)];rfl)
  rcases hbad with(hbad | hbad) | hbad
  ·have E:=Avp (E0.out (.inl hbad))
   obtain⟨g1,g2⟩:=hbad
   have g1':(0:Int)<(i:Int):=by omega
   have g2':((x.toNat:Nat):Int)=0:=by omega
   clear g2
   go_wp2
   refine bodyPost_ret (v:=.tuple #[.int .u64 0,.int .i64 12]) (by simp[results,Tryz.results304,go_sem]) rfl ?_
   rw[E.out]
   exact⟨rfl,An.ofBelow BB.out,H2.out⟩
  ·have E:=Avp (E0.out (.inr hbad))
   obtain⟨rfl,g2⟩:=hbad
   have g2':(1:Int)<((x.toNat:Nat):Int):=by omega
   have g3':(((x.toNat:Nat):Int)==0)=false:=by simp;omega
   go_wp2
   refine bodyPost_ret (v:=.tuple #[.int .u64 0,.int .i64 12]) (by simp[results,Tryz.results304,go_sem]) rfl ?_
   rw[E.out]
   exact⟨rfl,An.ofBelow BB.out,H2.out⟩
  ·have E:=Avp (E1.out hbad)
   have BD:=Avp hbad
   clear E0 E1
   have hsub:i=0∨(0<i∧i≠9∧x.toNat≠0)∨(i=9∧x.toNat=1):=by omega
   clear hbad
   rcases hsub with rfl | ⟨g1,g2,g3⟩ | ⟨rfl,g2⟩
   ·skip
    go_wp2
    go_loopw [6,7] (fun a j wr=>Aai w2 r (Hr r (0+1) 0) 0 a j wr) (fun _ j _=>(intOf j+1).toNat)
    case atStart=>exact⟨0+1,0,.inr ⟨0,rfl,rfl⟩,rfl,by decide,Nat.le_refl _,Below.refl _ _,rfl⟩
    case round=>
     obtain⟨j,acc,hj,rfl,hacc,hle,hbw,hv⟩:=hrel
     have HV:=Avp hv;have HBW:=Avp hbw;have HA:=Avp hacc
     rcases hj with⟨rfl,rfl⟩ | ⟨j,rfl,rfl⟩
     ·have h3:=H2.out.keep (Ak HBW.out (by have:=H2.out.lt;have:=BB.out.size;have:=HB.out;omega)) (by have:=BB.out.size;have:=HB.out;omega)
      have H3:=Avp h3
      have q2:=h3.c2;have q3:=h3.fr
      have hku:k+(0+1)<=9223372036854775807:=by have:=H.out.big;have:=HU.out;rw[E.out] at this;simp only at this;omega
      clear h3 hv hbw
      go_wp2
      refine bodyPost_ret (v:=.tuple #[.int .u64 acc,.int .i64 0]) (by simp[results,Tryz.results304,go_sem]) rfl ?_
      have e2:=HV.out
      rw[Hr] at e2
      rw[E.out]
      refine⟨by rw[e2],(An.ofBelow (BB.out.le HBW.out):An R none w wr).setAny _,?_⟩
      have:=H3.out.set_ (j:=k+(0+1)) (by have h1:=HU.out;rw[E.out] at h1;have:=H.out.le;simp only at h1;omega)
      rw[show(((k+(0+1):Nat)):Int)=(k:Int)+(0+1) by omega] at this
      exact this
     ·obtain⟨b',o',y,e',hbs',p1,_,p2⟩:=(S2.out.mono hbw).byte (i:=j) (by omega)
      cases e'
      have hjb:Fr r j=y.toNat:=by unfold Fr;rw[List.getD_eq_getElem?_getD,p1];rfl
      have JB:=Avp hjb
      have hjn:j<n:=by omega
      have hjm:j<=9:=by omega
      clear p1 hjb hv hbw
      go_wp2
      exact⟨Kg (by omega) HBW.out HV.out JB.out,by simp[intOf]⟩
   ·have g1':(0:Int)<(i:Int):=by omega
    have g2':((i:Int)==9)=false:=by simp;omega
    have g3':(((x.toNat:Nat):Int)==0)=false:=by simp;omega
    go_wp2
    go_loopw [6,7] (fun a j wr=>Aai w2 r (Hr r (i+1) 0) i a j wr) (fun _ j _=>(intOf j+1).toNat)
    case atStart=>exact⟨i+1,0,.inr ⟨i,rfl,rfl⟩,rfl,by decide,Nat.le_refl _,Below.refl _ _,rfl⟩
    case round=>
     obtain⟨j,acc,hj,rfl,hacc,hle,hbw,hv⟩:=hrel
     have HV:=Avp hv;have HBW:=Avp hbw;have HA:=Avp hacc
     rcases hj with⟨rfl,rfl⟩ | ⟨j,rfl,rfl⟩
     ·have h3:=H2.out.keep (Ak HBW.out (by have:=H2.out.lt;have:=BB.out.size;have:=HB.out;omega)) (by have:=BB.out.size;have:=HB.out;omega)
      have H3:=Avp h3
      have q2:=h3.c2;have q3:=h3.fr
      have hku:k+(i+1)<=9223372036854775807:=by have:=H.out.big;have:=HU.out;rw[E.out] at this;simp only at this;omega
      clear h3 hv hbw
      go_wp2
      refine bodyPost_ret (v:=.tuple #[.int .u64 acc,.int .i64 0]) (by simp[results,Tryz.results304,go_sem]) rfl ?_
      have e2:=HV.out
      rw[Hr] at e2
      rw[E.out]
      refine⟨by rw[e2],(An.ofBelow (BB.out.le HBW.out):An R none w wr).setAny _,?_⟩
      have:=H3.out.set_ (j:=k+(i+1)) (by have h1:=HU.out;rw[E.out] at h1;have:=H.out.le;simp only at h1;omega)
      rw[show(((k+(i+1):Nat)):Int)=(k:Int)+(i+1) by omega] at this
      exact this
     ·obtain⟨b',o',y,e',hbs',p1,_,p2⟩:=(S2.out.mono hbw).byte (i:=j) (by omega)
      cases e'
      have hjb:Fr r j=y.toNat:=by unfold Fr;rw[List.getD_eq_getElem?_getD,p1];rfl
      have JB:=Avp hjb
      have hjn:j<n:=by omega
      have hjm:j<=9:=by omega
      clear p1 hjb hv hbw
      go_wp2
      exact⟨Kg (by omega) HBW.out HV.out JB.out,by simp[intOf]⟩
   ·have g2':((x.toNat:Nat):Int)=1:=by omega
    clear g2
    go_wp2
    go_loopw [6,7] (fun a j wr=>Aai w2 r (Hr r (9+1) 0) 9 a j wr) (fun _ j _=>(intOf j+1).toNat)
    case atStart=>exact⟨9+1,0,.inr ⟨9,rfl,rfl⟩,rfl,by decide,Nat.le_refl _,Below.refl _ _,rfl⟩
    case round=>
     obtain⟨j,acc,hj,rfl,hacc,hle,hbw,hv⟩:=hrel
     have HV:=Avp hv;have HBW:=Avp hbw;have HA:=Avp hacc
     rcases hj with⟨rfl,rfl⟩ | ⟨j,rfl,rfl⟩
     ·have h3:=H2.out.keep (Ak HBW.out (by have:=H2.out.lt;have:=BB.out.size;have:=HB.out;omega)) (by have:=BB.out.size;have:=HB.out;omega)
      have H3:=Avp h3
      have q2:=h3.c2;have q3:=h3.fr
      have hku:k+(9+1)<=9223372036854775807:=by have:=H.out.big;have:=HU.out;rw[E.out] at this;simp only at this;omega
      clear h3 hv hbw
      go_wp2
      refine bodyPost_ret (v:=.tuple #[.int .u64 acc,.int .i64 0]) (by simp[results,Tryz.results304,go_sem]) rfl ?_
      have e2:=HV.out
      rw[Hr] at e2
      rw[E.out]
      refine⟨by rw[e2],(An.ofBelow (BB.out.le HBW.out):An R none w wr).setAny _,?_⟩
      have:=H3.out.set_ (j:=k+(9+1)) (by have h1:=HU.out;rw[E.out] at h1;have:=H.out.le;simp only at h1;omega)
      rw[show(((k+(9+1):Nat)):Int)=(k:Int)+(9+1) by omega] at this
      exact this
     ·obtain⟨b',o',y,e',hbs',p1,_,p2⟩:=(S2.out.mono hbw).byte (i:=j) (by omega)
      cases e'
      have hjb:Fr r j=y.toNat:=by unfold Fr;rw[List.getD_eq_getElem?_getD,p1];rfl
      have JB:=Avp hjb
      have hjn:j<n:=by omega
      have hjm:j<=9:=by omega
      clear p1 hjb hv hbw
      go_wp2
      exact⟨Kg (by omega) HBW.out HV.out JB.out,by simp[intOf]⟩
theorem Tn {B R k:Nat} {l:List UInt8} {w:World} (h:De B R l k w):Calls Tryz.prog 302 #[.pointer (some ⟨R,0,none⟩)] w (Ret w (IsB false)):=by
 have c0:=h.c0
 clear h
 go_enter Tryz.func302,Tryz.ntmps302
 go_wp2
 go_ret
 exact Ay rfl (Below.refl _ _)
def Dx (most:Nat) (r:List UInt8):Int×Nat×Nat:=if (Fm r).1=0 then (if most<(Fm r).2.1 then (3,0,0) else Fm r) else Fm r
theorem Rx {r:List UInt8} (h:(Fm r).1≠0):(Fm r).2=(0,0):=by
 unfold Fm at h ⊢
 dsimp only at h ⊢
 split
 ·split <;> rfl
 ·split
  ·rfl
  ·rename_i h1 h2
   rw[if_neg h1,if_neg h2] at h
   exact absurd rfl h
theorem Ns (most:Nat) (r:List UInt8):(Dx most r).2.2<=r.length:=by
 unfold Dx
 have:=Tx r
 split
 ·split
  ·simp
  ·exact this
 ·exact this
theorem Alt (most:Nat) (r:List UInt8):(Dx most r).2.1<18446744073709551616:=by
 unfold Dx
 have:=Ack r
 split
 ·split
  ·decide
  ·exact this
 ·exact this
theorem Al0 {most:Nat} {r:List UInt8} (h:(Dx most r).1=0):(Dx most r).2.1<=most:=by
 unfold Dx at h ⊢
 split
 ·rename_i h1
  rw[if_pos h1] at h
  split
  ·simp
  ·omega
 ·rename_i h1
  rw[if_neg h1] at h
  exact absurd h h1
theorem W5 {most:Nat} {r:List UInt8} (h:(Dx most r).1≠0):(Dx most r).2=(0,0):=by
 unfold Dx at h ⊢
 split
 ·rename_i h1
  rw[if_pos h1] at h
  split
  ·rfl
  ·rename_i h2
   rw[if_neg h2] at h
   exact absurd h1 h
 ·rename_i h1
  exact Rx h1
theorem Amp {B R k:Nat} {l:List UInt8} {w:World} (h:De B R l k w) (hB:B<=w.heap.size):Calls Tryz.prog 303 #[.pointer (some ⟨R,0,none⟩),.func (.func 304) #[] #[]] w (Af6 B R l k w):=by
 have C:=Avp (Tn h)
 have H:=Avp h;have HB:=Avp hB
 clear h hB
 unfold Af6
 generalize hr:l.drop k=r at *
 have HR:=Avp hr
 clear hr
 go_enter Tryz.func303,Tryz.ntmps303
 go_wp2_with fail
 refine C.out.mono ?_
 rintro _ w1 ⟨_,rfl,hb1,rfl⟩
 have H1:=Avp (H.out.keep (Ak hb1 HB.out) HB.out)
 have HB1:=Avp (show B<=w1.heap.size from Nat.le_trans HB.out hb1.size)
 have W1:=Avp (An.ofBelow hb1:An R none w w1)
 have q2:=H1.out.c2
 clear hb1 C
 have CN:=Avp (Anv H1.out HB1.out)
 go_wp2_with fail
 refine CN.out.mono ?_
 unfold Af6
 rintro _ w2 ⟨rfl,hw2,hr2⟩
 rw[HR.out] at hr2 ⊢
 have W2:=Avp (W1.out.trans hw2 (.inl rfl));have H2:=Avp hr2
 clear hw2 hr2 q2 CN
 have NE:=Avp (fun h=>Rx (r:=r) h)
 obtain⟨e,v,u,hq⟩:∃ e v u,Fm r=(e,v,u):=⟨_,_,_,rfl⟩
 rw[hq] at NE H2 ⊢
 have HQ:=Avp hq
 clear hq
 simp only at NE H2
 by_cases he:e=0
 ·subst he
  go_wp2
  refine bodyPost_ret (v:=.tuple #[.int .u64 v,.int .i64 0]) (by simp[results,Tryz.results303,go_sem]) rfl ?_
  rw[HQ.out]
  exact⟨rfl,W2.out,H2.out⟩
 ·have E:=NE.out he
  simp only[Prod.mk.injEq] at E
  obtain⟨rfl,rfl⟩:=E
  have he':(e != 0)=true:=by simp[he]
  have q2:=H2.out.c2;have q3:=H2.out.fr
  simp only[Nat.add_zero] at q2 H2
  go_wp2
  refine bodyPost_ret (v:=.tuple #[.int .u64 0,.int .i64 e]) (by simp[results,Tryz.results303,go_sem]) rfl ?_
  rw[HQ.out]
  exact⟨rfl,W2.out.setAny _,H2.out.set_ H2.out.le⟩
theorem Aqn {B R k most:Nat} {l:List UInt8} {w:World} (h:De B R l k w) (hB:B<=w.heap.size):Calls Tryz.prog 223 #[.pointer (some ⟨R,0,none⟩),.int .u64 (most:Int)] w (fun e w'=>
  e = .returned (.tuple #[.int .u64 ((Dx most (l.drop k)).2.1:Nat),.int .i64 (Dx most (l.drop k)).1])∧An R none w w'∧De B R l (k+(Dx most (l.drop k)).2.2) w'):=by
 have C:=Avp (Tn h)
 have H:=Avp h;have HB:=Avp hB
 clear h hB
 generalize hr:l.drop k=r at *
 have HR:=Avp hr
 clear hr
 go_enter Tryz.func223,Tryz.ntmps223
 go_wp2_with fail
 refine C.out.mono ?_
 rintro _ w1 ⟨_,rfl,hb1,rfl⟩
 have H1:=Avp (H.out.keep (Ak hb1 HB.out) HB.out)
 have HB1:=Avp (show B<=w1.heap.size from Nat.le_trans HB.out hb1.size)
 have W1:=Avp (An.ofBelow hb1:An R none w w1)
 have q2:=H1.out.c2
 clear hb1 C
 have CN:=Avp (Amp H1.out HB1.out)
 go_wp2_with fail
 refine CN.out.mono ?_
 unfold Af6
 rintro _ w2 ⟨rfl,hw2,hr2⟩
 rw[HR.out] at hr2 ⊢
 have W2:=Avp (W1.out.trans hw2 (.inl rfl));have H2:=Avp hr2
 clear hw2 hr2 q2 CN
 have hlt:=Ack r
 have NE:=Avp (fun h=>Rx (r:=r) h)
 obtain⟨e,v,u,hq⟩:∃ e v u,Fm r=(e,v,u):=⟨_,_,_,rfl⟩
 rw[hq] at hlt NE H2 ⊢
 have HQ:=Avp hq
 clear hq
 simp only at hlt NE H2
 by_cases he:e=0
 ·subst he
  by_cases hm:most<v
  ·have hm':(most:Int)<(v:Int):=by omega
   have q2:=H2.out.c2;have q3:=H2.out.fr
   have EM:Dx most r=(3,0,0):=by unfold Dx;rw[HQ.out];simp[hm]
   clear hlt
   go_wp2
   refine bodyPost_ret (v:=.tuple #[.int .u64 0,.int .i64 3]) (by simp[results,Tryz.results223,go_sem]) rfl ?_
   rw[EM]
   exact⟨rfl,W2.out.setAny _,H2.out.set_ (by have:=H.out.le;omega)⟩
  ·have hm':¬(most:Int)<(v:Int):=by omega
   have EM:Dx most r=(0,v,u):=by unfold Dx;rw[HQ.out];simp[hm]
   clear hlt
   go_wp2
   refine bodyPost_ret (v:=.tuple #[.int .u64 v,.int .i64 0]) (by simp[results,Tryz.results223,go_sem]) rfl ?_
   rw[EM]
   exact⟨rfl,W2.out,H2.out⟩
 ·have E:=NE.out he
  simp only[Prod.mk.injEq] at E
  obtain⟨rfl,rfl⟩:=E
  have he':(e==0)=false:=by simp[he]
  have EM:Dx most r=(e,0,0):=by unfold Dx;rw[HQ.out];simp[he]
  clear hlt
  go_wp2
  refine bodyPost_ret (v:=.tuple #[.int .u64 0,.int .i64 e]) (by simp[results,Tryz.results223,go_sem]) rfl ?_
  rw[EM]
  exact⟨rfl,W2.out,H2.out⟩
theorem Ag.setAway {α:Type} {e:Enc α} {ty:TypeId} {w:World} {B R o:Nat} {v:Value} {l:List α} (h:Ag e ty w B v l) (hR:R<B) (u:Value):Ag e ty (w.setCell ⟨R,o,none⟩ u) B v l:=by
 refine⟨h.1,?_⟩
 rcases h.2 with h2 | ⟨g,cap,cur,hv,hg,hh,r⟩
 ·exact .inl h2
 ·exact .inr ⟨g,cap,cur,hv,hg,((Iw (w:=w) R o u).block g (by omega)).trans hh,r⟩
theorem Kt {n:Nat} (h:n<=9223372036854775807):IntKind.i64.wrap (n:Int)=(n:Int):=IntWalk.i64_in _ ⟨by omega,by omega⟩
theorem Aph {B R k n:Nat} {l:List UInt8} {w:World} (h:De B R l k w) (hB:B<=w.heap.size) (hl:l.length<=1000000) (hn:n<18446744073709551616):Calls Tryz.prog 307 #[.pointer (some ⟨R,0,none⟩),.int .u64 (n:Int)] w (fun e w'=>
  ∃ v,e = .returned (.tuple #[v,.int .i64 (if l.length - k<n then 4 else 0)])∧An R none w w'∧(if l.length - k<n then v = .slice none 0 0∧De B R l k w' else Aje w.heap.size ((l.drop k).take n) w' v∧De B R l (k+n) w')):=by
 have C:=Avp (Adm h)
 have H:=Avp h;have HB:=Avp hB;have HL:=Avp hl
 have hk:=h.le
 have wl:=wrap_u64 (a:=l.length - k) (by omega)
 clear h hB
 by_cases hs:l.length - k<n
 ·have hs':((l.length - k:Nat):Int)<(n:Int):=by omega
  simp only[if_pos hs]
  go_enter Tryz.func307,Tryz.ntmps307
  go_wp2_with fail
  refine C.out.mono ?_
  rintro _ w1 ⟨_,rfl,hb1,A,c,rfl,hsl,hA⟩
  rw[List.length_drop]
  have hbig:l.length - k<=9223372036854775807:=by omega
  have W1:=Avp (An.ofBelow hb1:An R none w w1)
  have H1:=Avp (H.out.keep (Ak hb1 HB.out) HB.out)
  obtain⟨m,hm⟩:∃ m,m=l.length - k:=⟨_,rfl⟩
  rw[<-hm] at wl hs' hbig ⊢
  clear hb1 hsl hA hl hn hk hs hm C
  go_wp2
  refine bodyPost_ret (v:=.tuple #[.slice none 0 0,.int .i64 4]) (by simp[results,Tryz.results307,go_sem]) rfl ?_
  exact⟨_,rfl,W1.out,rfl,H1.out⟩
 ·have hs':¬((l.length - k:Nat):Int)<(n:Int):=by omega
  simp only[if_neg hs]
  have hn9:n<=9223372036854775807:=by omega
  have wn:=Kt hn9
  have hku:k+n<=9223372036854775807:=by omega
  go_enter Tryz.func307,Tryz.ntmps307
  go_wp2_with fail
  refine C.out.mono ?_
  rintro _ w1 ⟨_,rfl,hb1,A,c,rfl,hsl,hA⟩
  rw[List.length_drop]
  have hbig:l.length - k<=9223372036854775807:=by omega
  have B1:=Avp hb1
  have H1:=Avp (H.out.keep (Ak hb1 HB.out) HB.out)
  obtain⟨m,hm⟩:∃ m,m=l.length - k:=⟨_,rfl⟩
  rw[<-hm] at wl hs' hbig ⊢
  have hnm:n<=m:=by omega
  have HNM:=Avp hnm;have HM:=Avp hm;have HK:=Avp hk;have HKU:=Avp hku
  have C1:=Avp (Adm H1.out)
  clear hb1 hsl hA hl hn hk hs C hm hnm hku
  go_wp2_with fail
  refine C1.out.mono ?_
  rintro _ w2 ⟨_,rfl,hb2,A2,c2,rfl,hsl2,hA2⟩
  rw[List.length_drop,<-HM.out] at hsl2 ⊢
  have hnc:n<=c2:=Nat.le_trans HNM.out hsl2.cap
  have B2:=Avp (B1.out.le hb2)
  have S2:=Avp (hsl2.take_ HNM.out)
  have HB1:B<=w1.heap.size:=Nat.le_trans HB.out B1.out.size
  have H2:=Avp (H1.out.keep (Ak hb2 HB1) HB1)
  have CC:=Avp (Ag6 _ _ _ _ _ S2.out (by have:=HL.out;have:=HM.out;have:=HNM.out;omega))
  clear hb2 hsl2 hA2 C1 HB1 hs' wl
  go_wp2_with fail
  refine CC.out.mono ?_
  rintro _ w3 ⟨v3,rfl,hb3,ho3⟩
  have B3:=Avp (B2.out.le hb3)
  have HB2:B<=w2.heap.size:=Nat.le_trans HB.out B2.out.size
  have h3:=H2.out.keep (Ak hb3 HB2) HB2
  have H3:=Avp h3
  have q2:=h3.c2;have q3:=h3.fr
  have O3:=Avp (Ag.low ho3 B2.out.size)
  have hku:=HKU.out
  clear hb3 ho3 h3 HB2 CC hnc
  go_wp2
  refine bodyPost_ret (v:=.tuple #[v3,.int .i64 0]) (by simp[results,Tryz.results307,go_sem]) rfl ?_
  have hRw:=H.out.size
  have O4:Au1 (w3.setCell ⟨R,2,none⟩ (.int .i64 ((k:Int)+n))) w.heap.size v3 ((l.drop k).take n):=Ag.setAway O3.out hRw _
  have h4:=H3.out.set_ (j:=k+n) (by have:=HNM.out;have:=HM.out;have:=HK.out;omega)
  exact⟨_,rfl,(An.ofBelow B3.out:An R none w w3).setAny _,O4,h4⟩
def Dm (most:Nat) (r:List UInt8):Int×List UInt8×Nat:=
 if (Dx 18446744073709551615 r).1≠0 then ((Dx 18446744073709551615 r).1,[],0)
 else if most<(Dx 18446744073709551615 r).2.1 then (5,[],0)
 else if r.length - (Dx 18446744073709551615 r).2.2<(Dx 18446744073709551615 r).2.1 then (4,[],0)
 else (0,(r.drop (Dx 18446744073709551615 r).2.2).take (Dx 18446744073709551615 r).2.1,(Dx 18446744073709551615 r).2.2+(Dx 18446744073709551615 r).2.1)
theorem Ajr {most:Nat} {r:List UInt8} (h:(Dm most r).1≠0):(Dm most r).2=([],0):=by
 unfold Dm at h ⊢
 split
 ·rfl
 ·rename_i h1
  rw[if_neg h1] at h
  split
  ·rfl
  ·rename_i h2
   rw[if_neg h2] at h
   split
   ·rfl
   ·rename_i h3
    rw[if_neg h3] at h
    exact absurd rfl h
def Arb (B R:Nat) (l:List UInt8) (k most:Nat) (w:World) (e:Ending) (w':World):Prop:=
 e = .returned (.tuple #[Ac (Dm most (l.drop k)).2.1,.int .i64 (Dm most (l.drop k)).1])∧An R none w w'∧∃ j,De B R l j w'∧((Dm most (l.drop k)).1=0->j=k+(Dm most (l.drop k)).2.2)
theorem Ag5 {B R X k most:Nat} {l:List UInt8} {w:World} (h:De B R l k w) (hB:B<=w.heap.size) (hl:l.length<=1000000) (hX:w.cell? ⟨X,0,none⟩=some (.int .i64 (most:Int))) (hXR:X≠R) (hm:most<=100000) :
  Calls Tryz.prog 306 #[.pointer (some ⟨R,0,none⟩),.pointer (some ⟨X,0,none⟩)] w (Arb B R l k most w):=by
 have C:=Avp (Aqn (most:=18446744073709551615) h hB)
 have H:=Avp h;have HB:=Avp hB;have HL:=Avp hl;have HX:=Avp hX;have HXR:=Avp hXR
 have hmb:most<=9223372036854775807:=by omega
 have wm:=wrap_u64 (a:=most) (by omega)
 have HM:=Avp hm
 clear h hB hl hX hXR hm
 have NL:=Alt 18446744073709551615 (l.drop k)
 have NE:=Avp (fun h=>W5 (most:=18446744073709551615) (r:=l.drop k) h)
 have NU:=Avp (Ns 18446744073709551615 (l.drop k))
 unfold Arb
 have DK:=Avp (show ∀ u,(l.drop k).drop u=l.drop (k+u) from fun u=>List.drop_drop ..)
 have LK:=Avp (show(l.drop k).length=l.length - k from List.length_drop ..)
 generalize hr:l.drop k=r at *
 have HR:=Avp hr
 clear hr
 obtain⟨e,v,u,hq⟩:∃ e v u,Dx 18446744073709551615 r=(e,v,u):=⟨_,_,_,rfl⟩
 rw[hq] at C NL NE NU
 have HQ:=Avp hq
 clear hq
 simp only at C NL NE NU
 go_enter Tryz.func306,Tryz.ntmps306
 go_wp2_with fail
 refine C.out.mono ?_
 rintro _ w1 ⟨rfl,hw1,hr1⟩
 have W1:=Avp hw1;have H1:=Avp hr1
 have cx:=hw1.cell HX.out HXR.out (by simp)
 clear hw1 hr1 C
 by_cases he:e=0
 ·subst he
  by_cases hbig:most<v
  ·have hb':(most:Int)<(v:Int):=by omega
   have ES:Dm most r=(5,[],0):=by unfold Dm;rw[HQ.out];simp[hbig]
   clear NL hmb
   go_wp2
   refine bodyPost_ret (v:=.tuple #[Ac [],.int .i64 5]) (by simp[results,Tryz.results306,go_sem]) rfl ?_
   rw[ES]
   exact⟨rfl,W1.out,_,H1.out,fun h=>absurd h (by simp)⟩
  ·have hb':¬(most:Int)<(v:Int):=by omega
   have HV:=Avp (show v<=most by omega)
   have TK:=Avp (Aph (n:=v) H1.out (Nat.le_trans HB.out W1.out.size) HL.out NL)
   have ND:l.length - (k+u)=r.length - u:=by have:=LK.out;omega
   rw[ND,<-DK.out u] at TK
   clear NL hmb ND
   go_wp2_with fail
   refine TK.out.mono ?_
   rintro _ w2 ⟨v2,rfl,hw2,hd⟩
   have W2:=Avp (W1.out.trans hw2 (.inl rfl))
   clear hw2 TK cx
   by_cases hs:r.length - u<v
   ·rw[if_pos hs] at hd
    obtain⟨rfl,hr2⟩:=hd
    have H2:=Avp hr2
    have CV:=Qn (Sl.nil_ encB w2)
    have ES:Dm most r=(4,[],0):=by unfold Dm;rw[HQ.out];simp only[ne_eq,not_true_eq_false,if_false];rw[if_neg hbig,if_pos hs]
    rw[if_pos hs]
    clear hr2
    go_wp2
    refine bodyPost_ret (v:=.tuple #[Ac [],.int .i64 4]) (by simp[results,Tryz.results306,go_sem]) rfl ?_
    rw[ES]
    exact⟨rfl,W2.out,_,H2.out,fun h=>absurd h (by simp)⟩
   ·rw[if_neg hs] at hd
    obtain⟨ho,hr2⟩:=hd
    obtain⟨sl,hsl⟩:∃ s,s=(r.drop u).take v:=⟨_,rfl⟩
    rw[<-hsl] at ho
    obtain⟨A2,c2,rfl,s2⟩:=Ag.sl ho
    have H2:=Avp hr2
    have CV:=Qn s2
    have ES:Dm most r=(0,(r.drop u).take v,u+v):=by unfold Dm;rw[HQ.out];simp only[ne_eq,not_true_eq_false,if_false];rw[if_neg hbig,if_neg hs]
    rw[if_neg hs]
    rw[<-hsl] at ES
    have HSL:=Avp hsl
    clear hr2 s2 ho hsl
    go_wp2
    refine bodyPost_ret (v:=.tuple #[Ac sl,.int .i64 0]) (by simp[results,Tryz.results306,go_sem]) rfl ?_
    rw[ES]
    exact⟨rfl,W2.out,_,H2.out,fun _=>by simp only;omega⟩
 ·have E:=NE.out he
  simp only[Prod.mk.injEq] at E
  obtain⟨rfl,rfl⟩:=E
  have he':(e != 0)=true:=by simp[he]
  have ES:Dm most r=(e,[],0):=by unfold Dm;rw[HQ.out];simp[he]
  clear NL hmb cx
  go_wp2
  refine bodyPost_ret (v:=.tuple #[Ac [],.int .i64 e]) (by simp[results,Tryz.results306,go_sem]) rfl ?_
  rw[ES]
  exact⟨rfl,W1.out,_,H1.out,fun h=>absurd h he⟩
end Go.Proofs.YthnbhjpahlceeaaGreatDoor
