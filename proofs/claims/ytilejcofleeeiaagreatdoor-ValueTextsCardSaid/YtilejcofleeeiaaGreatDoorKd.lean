/- YtilejcofleeeiaaGreatDoor: the walk calculus, part Kd: proved rules by which the walks of this seat are made. -/
import Derived.Test.YtilejcofleeeiaaGreatDoorKc
import Derived.Laws.Strings
namespace Go.K
open Go
set_option linter.unusedVariables false
set_option linter.unusedSimpArgs false
/-! ### The walk's own forms: what is great stands behind a tag -/
def VT (c:Cfg) {code:Code} (_:Tag code) {Q:Post} (_:Tag Q) (wb:World) (e:Env) (ds:List Deferred) (L:Own):Prop:=V c code Q wb e ds L
def VLT (c:Cfg) {all:List Oper} (_:Tag all) {Q:Post} (_:Tag Q) {rest:List Oper} (_:Tag rest) (wb:World) (e:Env) (ds:List Deferred) (L:Own):Prop:=VL c all Q rest wb e ds L
def OT (c:Cfg) (_op:Op) {o:Oper} (_:Tag o) (wb:World) (e:Env) (ds:List Deferred) (L:Own) {K:KV} (_:Tag K) {Kp:KP} (_:Tag Kp):Prop:=opNode c o wb e ds L K Kp
def VQT (c:Cfg) {all:List Oper} (_:Tag all) (wb:World) (L:Own) {K:Env→Prop} (_:Tag K) {rest:List Oper} (_:Tag rest) (e:Env):Prop:=VQ c all wb L K rest e
def QT (c:Cfg) (_op:Op) {o:Oper} (_:Tag o) (wb:World) (e:Env) (L:Own) {K:Value→Prop} (_:Tag K):Prop:=qNode c o wb e L K
def gdstL:List Oper→Nat→Option Nat
 | [],_=>none
 | o::_,0=>o.dst
 | _::l,j+1=>gdstL l j
theorem gdst_eq:∀ (l:List Oper) (j:Nat),gdst l j=gdstL l j
 | [],_=>rfl
 | _::_,0=>rfl
 | _::l,j+1=>by
  have:=gdst_eq l j
  unfold gdst at *
  simp only[List.getElem?_cons_succ]
  exact this
def guardT {all:List Oper} (_:Tag all) (j:Nat) (e:Env) (want:Bool) {A:Env→Prop} (_:Tag A) {B:Env→Prop} (_:Tag B):Prop:=guardedO (gdstL all j) e want A B
def binV (op:BinOp) (t:TypeId) (x y:Operand) (a b:Value):Sem Value:=do eqGuard op t x y a b; binOp op t a b
section structure_rules
variable (c:Cfg) (Q:Post) (wb:World) (e:Env) (ds:List Deferred) (L:Own)
@[push_cast] theorem V_skip:VT c (tag .skip) (tag Q) wb e ds L=Q .normal wb e ds L:=(rfl)
@[push_cast] theorem V_seq (a b:Code):VT c (tag (.seq a b)) (tag Q) wb e ds L=VT c (tag a) (tag (thenP (tag fun wb e ds L=>VT c (tag b) (tag Q) wb e ds L) (tag Q))) wb e ds L:=(rfl)
@[push_cast] theorem V_regF (id:Nat) (ops:List Oper):VT c (tag (.region id ops.toArray false)) (tag Q) wb e ds L=VLT c (tag ops) (tag Q) (tag ops) wb e ds L:=(rfl)
@[push_cast] theorem V_regT (id:Nat) (ops:Array Oper):VT c (tag (.region id ops true)) (tag Q) wb e ds L=SemT c (tag (.region id ops true)) (tag Q) wb e ds L:=(rfl)
theorem Vc (x:Operand) (a b:Code):VT c (tag (.cond x a b)) (tag Q) wb e ds L=CondX (ev e x) (tag (VT c (tag a) (tag Q) wb e ds L)) (tag (VT c (tag b) (tag Q) wb e ds L)):=(rfl)
theorem Vb (id:Nat) (b:Code):VT c (tag (.block id b)) (tag Q) wb e ds L=VT c (tag b) (tag (blockP id (tag Q))) wb e ds L:=(rfl)
@[push_cast] theorem V_exit (id:Nat):VT c (tag (.exit id)) (tag Q) wb e ds L=Q (.exit id) wb e ds L:=(rfl)
@[push_cast] theorem V_ret:VT c (tag .ret) (tag Q) wb e ds L=Q .ret wb e ds L:=(rfl)
@[push_cast] theorem V_loop (b:Code):VT c (tag (.loop b)) (tag Q) wb e ds L=SemT c (tag (.loop b)) (tag Q) wb e ds L:=(rfl)
@[push_cast] theorem V_rangeFunc (f:Operand) (ps:Array Tmp) (a b:Code):VT c (tag (.rangeFunc f ps a b)) (tag Q) wb e ds L=SemT c (tag (.rangeFunc f ps a b)) (tag Q) wb e ds L:=(rfl)
variable {c Q} {K:World→Env→List Deferred→Own→Prop}
@[push_cast] theorem thenP_normal:thenP (tag K) (tag Q) .normal wb e ds L=K wb e ds L:=(rfl)
@[push_cast] theorem thenP_ret:thenP (tag K) (tag Q) .ret wb e ds L=Q .ret wb e ds L:=(rfl)
@[push_cast] theorem thenP_exit (id:Nat):thenP (tag K) (tag Q) (.exit id) wb e ds L=Q (.exit id) wb e ds L:=(rfl)
@[push_cast] theorem thenP_panic (ch:List PanicEntry):thenP (tag K) (tag Q) (.panic ch) wb e ds L=Q (.panic ch) wb e ds L:=(rfl)
@[push_cast] theorem blockP_normal (id:Nat):blockP id (tag Q) .normal wb e ds L=Q .normal wb e ds L:=(rfl)
@[push_cast] theorem blockP_ret (id:Nat):blockP id (tag Q) .ret wb e ds L=Q .ret wb e ds L:=(rfl)
@[push_cast] theorem blockP_panic (id:Nat) (ch:List PanicEntry):blockP id (tag Q) (.panic ch) wb e ds L=Q (.panic ch) wb e ds L:=(rfl)
@[push_cast] theorem blockP_exit (id id':Nat):blockP id (tag Q) (.exit id') wb e ds L=if id'=id then Q .normal wb e ds L else Q (.exit id') wb e ds L:=(rfl)
variable {P:Program} {rs:List ResultVar} {R:Ending→World→Prop}
@[push_cast] theorem retP_ret:retP P rs (tag R) .ret wb e ds L=(ds=[]∧ResL P wb L e rs fun vs=>∀ w,Sy wb L w→R (.returned (tup vs)) w):=(rfl)
@[push_cast] theorem retP_normal:retP P rs (tag R) .normal wb e ds L=(ds=[]∧ResL P wb L e rs fun vs=>∀ w,Sy wb L w→R (.returned (tup vs)) w):=(rfl)
@[push_cast] theorem retP_panic (ch:List PanicEntry):retP P rs (tag R) (.panic ch) wb e ds L=(ds=[]∧∀ w,Sy wb L w→R (.panicked ch) w):=(rfl)
@[push_cast] theorem ResL_nil (K:List Value→Prop):ResL P wb L e [] K=K []:=(rfl)
@[push_cast] theorem ResL_tmp (t:Tmp) (rs:List ResultVar) (K:List Value→Prop):ResL P wb L e (.tmp t::rs) K=PutX (e t) (tag fun v=>ResL P wb L e rs fun vs=>K (v::vs)):=(rfl)
@[push_cast] theorem ResL_cell (t:Tmp) (ty:TypeId) (rs:List ResultVar) (K:List Value→Prop):ResL P wb L e (.cell t ty::rs) K=LoadX P ty (e t) wb L (tag fun v=>ResL P wb L e rs fun vs=>K (v::vs)):=(rfl)
@[push_cast] theorem tup_one (v:Value):tup [v]=v:=(rfl)
@[push_cast] theorem tup_nil:tup []=.tuple #[]:=(rfl)
@[push_cast] theorem tup_two (u v:Value):tup [u,v]=.tuple #[u,v]:=(rfl)
@[push_cast] theorem tup_three (u v x:Value):tup [u,v,x]=.tuple #[u,v,x]:=(rfl)
end structure_rules
section ops
variable {c:Cfg} {Q:Post} {all:List Oper} {d:Option Nat} {ty:TypeId} {pos:String} {af:Array Edge} {rest:List Oper} (wb:World) (e:Env) (ds:List Deferred) (L:Own) {K:KV} {Kp:KP} {g:Option (Nat×Bool)}
@[push_cast] theorem VL_nil:VLT c (tag all) (tag Q) (tag []) wb e ds L=Q .normal wb e ds L:=(rfl)
@[push_cast] theorem VL_none (op:Op):VLT c (tag all) (tag Q) (tag (⟨d,op,ty,pos,af,none⟩::rest)) wb e ds L =
 OT c op (tag ⟨d,op,ty,pos,af,none⟩) wb e ds L (tag fun v wb' ds' L'=>VLT c (tag all) (tag Q) (tag rest) wb' (puto e d v) ds' L') (tag fun ch wb' L'=>Q (.panic ch) wb' e ds L'):=rfl
@[push_cast] theorem VL_some (op:Op) (j:Nat) (want:Bool):VLT c (tag all) (tag Q) (tag (⟨d,op,ty,pos,af,some (j,want)⟩::rest)) wb e ds L =
 guardT (tag all) j e want (tag fun e=>OT c op (tag ⟨d,op,ty,pos,af,some (j,want)⟩) wb e ds L (tag fun v wb' ds' L'=>VLT c (tag all) (tag Q) (tag rest) wb' (puto e d v) ds' L') (tag fun ch wb' L'=>Q (.panic ch) wb' e ds L'))
  (tag fun e=>VLT c (tag all) (tag Q) (tag rest) wb (puto e d undef) ds L):=by
 show guardedO (gdst all j) e want _ _=_
 unfold guardT
 rw[gdst_eq]
 rfl
@[push_cast] theorem guardT_succ (o:Oper) (l:List Oper) (j:Nat) (want:Bool) (A B:Env→Prop):guardT (tag (o::l)) (j+1) e want (tag A) (tag B)=guardT (tag l) j e want (tag A) (tag B):=(rfl)
@[push_cast] theorem guardT_zero (k:Nat) (op:Op) (l:List Oper) (want:Bool) (A B:Env→Prop):guardT (tag (⟨some k,op,ty,pos,af,g⟩::l)) 0 e want (tag A) (tag B)=GuardX (e k) e k want (tag A) (tag B):=(rfl)
@[push_cast] theorem puto_some (k:Nat) (v:Value):puto e (some k) v=upd e k v:=(rfl)
@[push_cast] theorem puto_none (v:Value):puto e none v=e:=(rfl)
@[push_cast] theorem op_move (x:Operand):OT c (.move x) (tag ⟨d,.move x,ty,pos,af,g⟩) wb e ds L (tag K) (tag Kp)=PutX (ev e x) (tag fun v=>K v wb ds L):=(rfl)
@[push_cast] theorem op_assign (x:Operand):OT c (.assign x) (tag ⟨d,.assign x,ty,pos,af,g⟩) wb e ds L (tag K) (tag Kp)=PutX (ev e x) (tag fun v=>K v wb ds L):=(rfl)
@[push_cast] theorem op_pick (x a b:Operand):OT c (.pick x a b) (tag ⟨d,.pick x a b,ty,pos,af,g⟩) wb e ds L (tag K) (tag Kp)=PickX (ev e x) (ev e a) (ev e b) (tag fun v=>K v wb ds L):=(rfl)
@[push_cast] theorem op_alloc (t:TypeId):OT c (.alloc t) (tag ⟨d,.alloc t,ty,pos,af,g⟩) wb e ds L (tag K) (tag Kp)=AllocX c.P t wb L (tag fun v L'=>K v wb ds L'):=(rfl)
@[push_cast] theorem op_box (t:TypeId) (x:Operand):OT c (.box t x) (tag ⟨d,.box t x,ty,pos,af,g⟩) wb e ds L (tag K) (tag Kp)=BoxX t (ev e x) wb L (tag fun v L'=>K v wb ds L'):=(rfl)
@[push_cast] theorem op_build (t:TypeId) (parts:Array (Nat×Operand)):OT c (.build t parts) (tag ⟨d,.build t parts,ty,pos,af,g⟩) wb e ds L (tag K) (tag Kp)=PureX c.P (Instr.build t (parts.map (evp e))) (tag fun v=>K v wb ds L):=(rfl)
@[push_cast] theorem op_buildSlice (t:TypeId) (n:Nat) (parts:Array (Nat×Operand)):OT c (.buildSlice t n parts) (tag ⟨d,.buildSlice t n parts,ty,pos,af,g⟩) wb e ds L (tag K) (tag Kp)=ValX c.P (Instr.buildSlice t n (parts.map (evp e))) wb L (tag fun v wb' L'=>K v wb' ds L'):=(rfl)
@[push_cast] theorem op_load (t:TypeId) (a:Operand):OT c (.load t a) (tag ⟨d,.load t a,ty,pos,af,g⟩) wb e ds L (tag K) (tag Kp)=LoadX c.P t (ev e a) wb L (tag fun v=>K v wb ds L):=(rfl)
@[push_cast] theorem op_store (t:TypeId) (a x:Operand):OT c (.store t a x) (tag ⟨d,.store t a x,ty,pos,af,g⟩) wb e ds L (tag K) (tag Kp)=StoreX c.P t (ev e a) (ev e x) wb L (tag fun L'=>K undef wb ds L'):=(rfl)
@[push_cast] theorem op_nilCheck (x:Operand):OT c (.nilCheck x) (tag ⟨d,.nilCheck x,ty,pos,af,g⟩) wb e ds L (tag K) (tag Kp)=NilX (ev e x) (tag fun v=>K v wb ds L):=(rfl)
@[push_cast] theorem op_binOp (op:BinOp) (t:TypeId) (x y:Operand) (t':TypeId):OT c (.binOp op t x y t') (tag ⟨d,.binOp op t x y t',ty,pos,af,g⟩) wb e ds L (tag K) (tag Kp)=PureX c.P (binV op t x y (ev e x) (ev e y)) (tag fun v=>K v wb ds L):=(rfl)
@[push_cast] theorem op_unOp (op:UnOp) (t:TypeId) (x:Operand):OT c (.unOp op t x) (tag ⟨d,.unOp op t x,ty,pos,af,g⟩) wb e ds L (tag K) (tag Kp)=PureX c.P (Op.unary op (ev e x)) (tag fun v=>K v wb ds L):=(rfl)
@[push_cast] theorem op_convert (s t:TypeId) (x:Operand):OT c (.convert s t x) (tag ⟨d,.convert s t x,ty,pos,af,g⟩) wb e ds L (tag K) (tag Kp)=ConvX c.P s t (ev e x) wb L (tag fun v wb' L'=>K v wb' ds L'):=(rfl)
@[push_cast] theorem op_makeInterface (t:TypeId) (x:Operand):OT c (.makeInterface t x) (tag ⟨d,.makeInterface t x,ty,pos,af,g⟩) wb e ds L (tag K) (tag Kp)=PureX c.P (Instr.makeInterface t (ev e x)) (tag fun v=>K v wb ds L):=(rfl)
@[push_cast] theorem op_makeFunc (fn:Fn) (f cap:Array Operand):OT c (.makeFunc fn f cap) (tag ⟨d,.makeFunc fn f cap,ty,pos,af,g⟩) wb e ds L (tag K) (tag Kp)=PutX (.func fn (f.map (ev e)) (cap.map (ev e))) (tag fun v=>K v wb ds L):=by
 show PureX c.P (Instr.makeFunc fn (f.map (ev e)) (cap.map (ev e))) (tag fun v=>K v wb ds L)=_
 exact propext ⟨fun ⟨v,h1,h2⟩=>by have:=h1 wb; simp only[Instr.makeFunc,Sem.run_pure,Result.ok.injEq] at this; rw[← this.1] at h2; exact h2,fun h=>⟨_,fun _=>rfl,h⟩⟩
@[push_cast] theorem op_makeMap (t:TypeId) (r:Option Operand):OT c (.makeMap t r) (tag ⟨d,.makeMap t r,ty,pos,af,g⟩) wb e ds L (tag K) (tag Kp)=ValX c.P (Instr.makeMap t (r.map (ev e))) wb L (tag fun v wb' L'=>K v wb' ds L'):=(rfl)
@[push_cast] theorem op_makeSlice (t:TypeId) (l m:Operand):OT c (.makeSlice t l m) (tag ⟨d,.makeSlice t l m,ty,pos,af,g⟩) wb e ds L (tag K) (tag Kp)=ValX c.P (Instr.makeSlice t (ev e l) (ev e m)) wb L (tag fun v wb' L'=>K v wb' ds L'):=(rfl)
@[push_cast] theorem op_slice (t:TypeId) (x:Operand) (lo hi mx:Option Operand):OT c (.slice t x lo hi mx) (tag ⟨d,.slice t x lo hi mx,ty,pos,af,g⟩) wb e ds L (tag K) (tag Kp)=PureX c.P (Instr.sliceAt t (ev e x) (lo.map (ev e)) (hi.map (ev e)) (mx.map (ev e))) (tag fun v=>K v wb ds L):=(rfl)
@[push_cast] theorem op_fieldAddr (t:TypeId) (x:Operand) (f:Nat):OT c (.fieldAddr t x f) (tag ⟨d,.fieldAddr t x f,ty,pos,af,g⟩) wb e ds L (tag K) (tag Kp)=PureX c.P (Instr.fieldAt t (ev e x) f) (tag fun v=>K v wb ds L):=(rfl)
@[push_cast] theorem op_field (t:TypeId) (x:Operand) (f:Nat):OT c (.field t x f) (tag ⟨d,.field t x f,ty,pos,af,g⟩) wb e ds L (tag K) (tag Kp)=PureX c.P (Instr.field t (ev e x) f) (tag fun v=>K v wb ds L):=(rfl)
@[push_cast] theorem op_indexAddr (t:TypeId) (x i:Operand):OT c (.indexAddr t x i) (tag ⟨d,.indexAddr t x i,ty,pos,af,g⟩) wb e ds L (tag K) (tag Kp)=PureX c.P (Instr.indexAt t (ev e x) (ev e i)) (tag fun v=>K v wb ds L):=(rfl)
@[push_cast] theorem op_index (t:TypeId) (x i:Operand):OT c (.index t x i) (tag ⟨d,.index t x i,ty,pos,af,g⟩) wb e ds L (tag K) (tag Kp)=PureX c.P (Instr.index t (ev e x) (ev e i)) (tag fun v=>K v wb ds L):=(rfl)
@[push_cast] theorem op_lookup (t:TypeId) (x i:Operand) (ok:Bool):OT c (.lookup t x i ok) (tag ⟨d,.lookup t x i ok,ty,pos,af,g⟩) wb e ds L (tag K) (tag Kp)=ValX c.P (Instr.lookup t (ev e x) (ev e i) ok) wb L (tag fun v wb' L'=>K v wb' ds L'):=(rfl)
@[push_cast] theorem op_mapUpdate (t:TypeId) (m k x:Operand):OT c (.mapUpdate t m k x) (tag ⟨d,.mapUpdate t m k x,ty,pos,af,g⟩) wb e ds L (tag K) (tag Kp)=UnitX c.P (Instr.mapUpdate t (ev e m) (ev e k) (ev e x)) wb L (tag fun wb' L'=>K undef wb' ds L'):=(rfl)
@[push_cast] theorem op_typeAssert (x:Operand) (t u:TypeId) (ok:Bool):OT c (.typeAssert x t u ok) (tag ⟨d,.typeAssert x t u ok,ty,pos,af,g⟩) wb e ds L (tag K) (tag Kp)=PureX c.P (Instr.typeAssert (ev e x) t u ok) (tag fun v=>K v wb ds L):=(rfl)
@[push_cast] theorem op_extract (x:Operand) (i:Nat):OT c (.extract x i) (tag ⟨d,.extract x i,ty,pos,af,g⟩) wb e ds L (tag K) (tag Kp)=PureX c.P (Instr.extract (ev e x) i) (tag fun v=>K v wb ds L):=(rfl)
@[push_cast] theorem op_panic (x:Operand):OT c (.panic x) (tag ⟨d,.panic x,ty,pos,af,g⟩) wb e ds L (tag K) (tag Kp)=PanicX (ev e x) (tag fun ch=>Kp ch wb L):=(rfl)
@[push_cast] theorem op_defer (cl:Call):OT c (.defer cl) (tag ⟨d,.defer cl,ty,pos,af,g⟩) wb e ds L (tag K) (tag Kp)=DeferX c (resolve (ev e) cl ty) (tag fun dd=>K undef wb (dd::ds) L):=(rfl)
@[push_cast] theorem op_call (f:Operand) (as:Array Operand) (ats:Array TypeId):OT c (.call ⟨.value f,as,ats⟩) (tag ⟨d,.call ⟨.value f,as,ats⟩,ty,pos,af,g⟩) wb e ds L (tag K) (tag Kp) =
 CallV c (ev e f) (as.map (ev e)) (tag ⟨d,.call ⟨.value f,as,ats⟩,ty,pos,af,g⟩) wb e ds L (tag fun v wb' L'=>K v wb' ds L') (tag Kp):=rfl
@[push_cast] theorem op_len (as:Array Operand) (ats:Array TypeId):OT c (.call ⟨.builtin .len,as,ats⟩) (tag ⟨d,.call ⟨.builtin .len,as,ats⟩,ty,pos,af,g⟩) wb e ds L (tag K) (tag Kp)=PureX c.P (Builtin.len_ ats ty (as.map (ev e))) (tag fun v=>K v wb ds L):=(rfl)
@[push_cast] theorem op_cap (as:Array Operand) (ats:Array TypeId):OT c (.call ⟨.builtin .cap,as,ats⟩) (tag ⟨d,.call ⟨.builtin .cap,as,ats⟩,ty,pos,af,g⟩) wb e ds L (tag K) (tag Kp)=PureX c.P (Builtin.cap_ ats ty (as.map (ev e))) (tag fun v=>K v wb ds L):=(rfl)
@[push_cast] theorem op_min (as:Array Operand) (ats:Array TypeId):OT c (.call ⟨.builtin .min,as,ats⟩) (tag ⟨d,.call ⟨.builtin .min,as,ats⟩,ty,pos,af,g⟩) wb e ds L (tag K) (tag Kp)=PureX c.P (Builtin.min_ ats ty (as.map (ev e))) (tag fun v=>K v wb ds L):=(rfl)
@[push_cast] theorem op_max (as:Array Operand) (ats:Array TypeId):OT c (.call ⟨.builtin .max,as,ats⟩) (tag ⟨d,.call ⟨.builtin .max,as,ats⟩,ty,pos,af,g⟩) wb e ds L (tag K) (tag Kp)=PureX c.P (Builtin.max_ ats ty (as.map (ev e))) (tag fun v=>K v wb ds L):=(rfl)
@[push_cast] theorem op_append (as:Array Operand) (ats:Array TypeId):OT c (.call ⟨.builtin .append,as,ats⟩) (tag ⟨d,.call ⟨.builtin .append,as,ats⟩,ty,pos,af,g⟩) wb e ds L (tag K) (tag Kp)=ValX c.P (Builtin.append_ ats ty (as.map (ev e))) wb L (tag fun v wb' L'=>K v wb' ds L'):=(rfl)
@[push_cast] theorem op_copy (as:Array Operand) (ats:Array TypeId):OT c (.call ⟨.builtin .copy,as,ats⟩) (tag ⟨d,.call ⟨.builtin .copy,as,ats⟩,ty,pos,af,g⟩) wb e ds L (tag K) (tag Kp)=ValX c.P (Builtin.copy_ ats ty (as.map (ev e))) wb L (tag fun v wb' L'=>K v wb' ds L'):=(rfl)
end ops
section quiet
variable {c:Cfg} {all:List Oper} {d:Option Nat} {ty:TypeId} {pos:String} {af:Array Edge} {rest:List Oper} (wb:World) (e:Env) (L:Own) {K:Value→Prop} {KE:Env→Prop} {g:Option (Nat×Bool)}
@[push_cast] theorem VQ_nil:VQT c (tag all) wb L (tag KE) (tag []) e=KE e:=(rfl)
@[push_cast] theorem VQ_none (op:Op):VQT c (tag all) wb L (tag KE) (tag (⟨d,op,ty,pos,af,none⟩::rest)) e=QT c op (tag ⟨d,op,ty,pos,af,none⟩) wb e L (tag fun v=>VQT c (tag all) wb L (tag KE) (tag rest) (puto e d v)):=(rfl)
@[push_cast] theorem VQ_some (op:Op) (j:Nat) (want:Bool):VQT c (tag all) wb L (tag KE) (tag (⟨d,op,ty,pos,af,some (j,want)⟩::rest)) e =
 guardT (tag all) j e want (tag fun e=>QT c op (tag ⟨d,op,ty,pos,af,some (j,want)⟩) wb e L (tag fun v=>VQT c (tag all) wb L (tag KE) (tag rest) (puto e d v))) (tag fun e=>VQT c (tag all) wb L (tag KE) (tag rest) (puto e d undef)):=by
 show guardedO (gdst all j) e want _ _=_
 unfold guardT
 rw[gdst_eq]
 rfl
@[push_cast] theorem q_move (x:Operand):QT c (.move x) (tag ⟨d,.move x,ty,pos,af,g⟩) wb e L (tag K)=PutX (ev e x) (tag K):=(rfl)
@[push_cast] theorem q_assign (x:Operand):QT c (.assign x) (tag ⟨d,.assign x,ty,pos,af,g⟩) wb e L (tag K)=PutX (ev e x) (tag K):=(rfl)
@[push_cast] theorem q_pick (x a b:Operand):QT c (.pick x a b) (tag ⟨d,.pick x a b,ty,pos,af,g⟩) wb e L (tag K)=PickX (ev e x) (ev e a) (ev e b) (tag K):=(rfl)
@[push_cast] theorem q_build (t:TypeId) (parts:Array (Nat×Operand)):QT c (.build t parts) (tag ⟨d,.build t parts,ty,pos,af,g⟩) wb e L (tag K)=PureX c.P (Instr.build t (parts.map (evp e))) (tag K):=(rfl)
@[push_cast] theorem q_load (t:TypeId) (a:Operand):QT c (.load t a) (tag ⟨d,.load t a,ty,pos,af,g⟩) wb e L (tag K)=LoadX c.P t (ev e a) wb L (tag K):=(rfl)
@[push_cast] theorem q_nilCheck (x:Operand):QT c (.nilCheck x) (tag ⟨d,.nilCheck x,ty,pos,af,g⟩) wb e L (tag K)=NilX (ev e x) (tag K):=(rfl)
@[push_cast] theorem q_binOp (op:BinOp) (t:TypeId) (x y:Operand) (t':TypeId):QT c (.binOp op t x y t') (tag ⟨d,.binOp op t x y t',ty,pos,af,g⟩) wb e L (tag K)=PureX c.P (binV op t x y (ev e x) (ev e y)) (tag K):=(rfl)
@[push_cast] theorem q_unOp (op:UnOp) (t:TypeId) (x:Operand):QT c (.unOp op t x) (tag ⟨d,.unOp op t x,ty,pos,af,g⟩) wb e L (tag K)=PureX c.P (Op.unary op (ev e x)) (tag K):=(rfl)
@[push_cast] theorem q_convert (s t:TypeId) (x:Operand):QT c (.convert s t x) (tag ⟨d,.convert s t x,ty,pos,af,g⟩) wb e L (tag K)=PureX c.P (convert s t (ev e x)) (tag K):=(rfl)
@[push_cast] theorem q_makeInterface (t:TypeId) (x:Operand):QT c (.makeInterface t x) (tag ⟨d,.makeInterface t x,ty,pos,af,g⟩) wb e L (tag K)=PureX c.P (Instr.makeInterface t (ev e x)) (tag K):=(rfl)
@[push_cast] theorem q_slice (t:TypeId) (x:Operand) (lo hi mx:Option Operand):QT c (.slice t x lo hi mx) (tag ⟨d,.slice t x lo hi mx,ty,pos,af,g⟩) wb e L (tag K)=PureX c.P (Instr.sliceAt t (ev e x) (lo.map (ev e)) (hi.map (ev e)) (mx.map (ev e))) (tag K):=(rfl)
@[push_cast] theorem q_fieldAddr (t:TypeId) (x:Operand) (f:Nat):QT c (.fieldAddr t x f) (tag ⟨d,.fieldAddr t x f,ty,pos,af,g⟩) wb e L (tag K)=PureX c.P (Instr.fieldAt t (ev e x) f) (tag K):=(rfl)
@[push_cast] theorem q_field (t:TypeId) (x:Operand) (f:Nat):QT c (.field t x f) (tag ⟨d,.field t x f,ty,pos,af,g⟩) wb e L (tag K)=PureX c.P (Instr.field t (ev e x) f) (tag K):=(rfl)
@[push_cast] theorem q_indexAddr (t:TypeId) (x i:Operand):QT c (.indexAddr t x i) (tag ⟨d,.indexAddr t x i,ty,pos,af,g⟩) wb e L (tag K)=PureX c.P (Instr.indexAt t (ev e x) (ev e i)) (tag K):=(rfl)
@[push_cast] theorem q_index (t:TypeId) (x i:Operand):QT c (.index t x i) (tag ⟨d,.index t x i,ty,pos,af,g⟩) wb e L (tag K)=PureX c.P (Instr.index t (ev e x) (ev e i)) (tag K):=(rfl)
@[push_cast] theorem q_typeAssert (x:Operand) (t u:TypeId) (ok:Bool):QT c (.typeAssert x t u ok) (tag ⟨d,.typeAssert x t u ok,ty,pos,af,g⟩) wb e L (tag K)=PureX c.P (Instr.typeAssert (ev e x) t u ok) (tag K):=(rfl)
@[push_cast] theorem q_extract (x:Operand) (i:Nat):QT c (.extract x i) (tag ⟨d,.extract x i,ty,pos,af,g⟩) wb e L (tag K)=PureX c.P (Instr.extract (ev e x) i) (tag K):=(rfl)
@[push_cast] theorem q_call (f:Operand) (as:Array Operand) (ats:Array TypeId):QT c (.call ⟨.value f,as,ats⟩) (tag ⟨d,.call ⟨.value f,as,ats⟩,ty,pos,af,g⟩) wb e L (tag K)=QCallV c (ev e f) (as.map (ev e)) wb L (tag K):=(rfl)
@[push_cast] theorem q_len (as:Array Operand) (ats:Array TypeId):QT c (.call ⟨.builtin .len,as,ats⟩) (tag ⟨d,.call ⟨.builtin .len,as,ats⟩,ty,pos,af,g⟩) wb e L (tag K)=PureX c.P (Builtin.len_ ats ty (as.map (ev e))) (tag K):=(rfl)
@[push_cast] theorem q_cap (as:Array Operand) (ats:Array TypeId):QT c (.call ⟨.builtin .cap,as,ats⟩) (tag ⟨d,.call ⟨.builtin .cap,as,ats⟩,ty,pos,af,g⟩) wb e L (tag K)=PureX c.P (Builtin.cap_ ats ty (as.map (ev e))) (tag K):=(rfl)
@[push_cast] theorem q_min (as:Array Operand) (ats:Array TypeId):QT c (.call ⟨.builtin .min,as,ats⟩) (tag ⟨d,.call ⟨.builtin .min,as,ats⟩,ty,pos,af,g⟩) wb e L (tag K)=PureX c.P (Builtin.min_ ats ty (as.map (ev e))) (tag K):=(rfl)
@[push_cast] theorem q_max (as:Array Operand) (ats:Array TypeId):QT c (.call ⟨.builtin .max,as,ats⟩) (tag ⟨d,.call ⟨.builtin .max,as,ats⟩,ty,pos,af,g⟩) wb e L (tag K)=PureX c.P (Builtin.max_ ats ty (as.map (ev e))) (tag K):=(rfl)
end quiet
/-! ### Values -/
section values
variable (e:Env)
@[push_cast] theorem ev_tmp (t:Tmp):ev e (.tmp t)=e t:=(rfl)
@[push_cast] theorem ev_const (v:Value):ev e (.const v)=v:=(rfl)
@[push_cast] theorem ev_global (g:Nat):ev e (.global g)=.pointer (some ⟨g,0,none⟩):=(rfl)
@[push_cast] theorem ev_func (f:FuncId):ev e (.func f)=.func (.func f) #[] #[]:=(rfl)
@[push_cast] theorem evp_mk (i:Nat) (x:Operand):evp e (i,x)=(i,ev e x):=(rfl)
@[push_cast] theorem upd_at (d t:Nat) (v:Value):upd e d v t=if t=d then v else e t:=(rfl)
@[push_cast] theorem env0_zero (v:Value) (l:List Value):env0 (v::l) 0=v:=(rfl)
@[push_cast] theorem env0_succ (v:Value) (l:List Value) (n:Nat):env0 (v::l) (n+1)=env0 l n:=(rfl)
@[push_cast] theorem env0_nil (n:Nat):env0 [] n=undef:=(rfl)
variable {K:Value→Prop}
@[push_cast] theorem PutX_eq (v:Value):PutX v (tag K)=K v:=(rfl)
@[push_cast] theorem PickX_t (a b:Value):PickX (.bool true) a b (tag K)=K a:=propext ⟨fun ⟨t,h,k⟩=>by cases h; exact k,fun h=>⟨true,rfl,h⟩⟩
@[push_cast] theorem PickX_f (a b:Value):PickX (.bool false) a b (tag K)=K b:=propext ⟨fun ⟨t,h,k⟩=>by cases h; exact k,fun h=>⟨false,rfl,h⟩⟩
@[push_cast] theorem NilX_some (a:Addr):NilX (.pointer (some a)) (tag K)=K (.pointer (some a)):=propext ⟨fun ⟨_,_,k⟩=>k,fun h=>⟨a,rfl,h⟩⟩
variable {A B:Prop}
@[push_cast] theorem CondX_true:CondX (.bool true) (tag A) (tag B)=A:=propext ⟨fun ⟨t,h,k,_⟩=>by cases h; exact k rfl,fun h=>condX_t h⟩
@[push_cast] theorem CondX_false:CondX (.bool false) (tag A) (tag B)=B:=propext ⟨fun ⟨t,h,_,k⟩=>by cases h; exact k rfl,fun h=>condX_f h⟩
variable {A B:Env→Prop}
@[push_cast] theorem GuardX_tt (d:Nat):GuardX (.bool true) e d true (tag A) (tag B)=A e:=propext ⟨fun h=>h.1 rfl,fun h=>⟨fun _=>h,fun h=>(h rfl).elim⟩⟩
@[push_cast] theorem GuardX_ff (d:Nat):GuardX (.bool false) e d false (tag A) (tag B)=A e:=propext ⟨fun h=>h.1 rfl,fun h=>⟨fun _=>h,fun h=>(h rfl).elim⟩⟩
@[push_cast] theorem GuardX_tf (d:Nat):GuardX (.bool true) e d false (tag A) (tag B)=B e:=propext ⟨fun h=>h.2 (by simp),fun h=>⟨fun h=>(by cases h),fun _=>h⟩⟩
@[push_cast] theorem GuardX_ft (d:Nat):GuardX (.bool false) e d true (tag A) (tag B)=B e:=propext ⟨fun h=>h.2 (by simp),fun h=>⟨fun h=>(by cases h),fun _=>h⟩⟩
@[push_cast] theorem GuardX_ut (d:Nat) (want:Bool):GuardX undef e d want (tag A) (tag B)=B e:=propext ⟨fun h=>h.2 (by simp[undef]),fun h=>⟨fun h=>by simp[undef] at h,fun _=>h⟩⟩
end values
theorem px {P:Program} {s:Sem Value} {v:Value} (h:∀ w,s.run P w=.ok v w) (K:Value→Prop):PureX P s (tag K)=K v :=
 propext ⟨fun ⟨u,h1,h2⟩=>by have:=(h1 default).symm.trans (h default); injection this with h3; rw[← h3]; exact h2,fun hk=>⟨v,h,hk⟩⟩
section arith
variable {P:Program} {K:Value→Prop} (t:TypeId) (x y:Operand) (k:IntKind) (a b:Int)
@[push_cast] theorem bin_lss:PureX P (binV .lss t x y (.int k a) (.int k b)) (tag K)=K (.bool (decide (a < b))):=px (fun w=>by simp[binV,eqGuard,binOp,Op.intCmp]) K
@[push_cast] theorem bin_leq:PureX P (binV .leq t x y (.int k a) (.int k b)) (tag K)=K (.bool (decide (a≤b))):=px (fun w=>by simp[binV,eqGuard,binOp,Op.intCmp]) K
@[push_cast] theorem bin_gtr:PureX P (binV .gtr t x y (.int k a) (.int k b)) (tag K)=K (.bool (decide (b < a))):=px (fun w=>by simp[binV,eqGuard,binOp,Op.intCmp]) K
@[push_cast] theorem bin_geq:PureX P (binV .geq t x y (.int k a) (.int k b)) (tag K)=K (.bool (decide (b≤a))):=px (fun w=>by simp[binV,eqGuard,binOp,Op.intCmp]) K
@[push_cast] theorem bin_eql:PureX P (binV .eql t x y (.int k a) (.int k b)) (tag K)=K (.bool (decide (a=b))):=px (fun w=>by simp[binV,eqGuard,binOp,Op.intCmp]; by_cases h:a=b<;>simp[h]) K
@[push_cast] theorem bin_neq:PureX P (binV .neq t x y (.int k a) (.int k b)) (tag K)=K (.bool (decide (a≠b))):=px (fun w=>by simp[binV,eqGuard,binOp,Op.intCmp]; by_cases h:a=b<;>simp[h]) K
@[push_cast] theorem bin_add:PureX P (binV .add t x y (.int k a) (.int k b)) (tag K)=K (.int k (k.wrap (a+b))):=px (fun w=>by simp[binV,eqGuard,binOp,Op.intArith]) K
@[push_cast] theorem bin_sub:PureX P (binV .sub t x y (.int k a) (.int k b)) (tag K)=K (.int k (k.wrap (a - b))):=px (fun w=>by simp[binV,eqGuard,binOp,Op.intArith]) K
@[push_cast] theorem bin_mul:PureX P (binV .mul t x y (.int k a) (.int k b)) (tag K)=K (.int k (k.wrap (a * b))):=px (fun w=>by simp[binV,eqGuard,binOp,Op.intArith]) K
@[push_cast] theorem un_not (b:Bool):PureX P (Op.unary .not (.bool b)) (tag K)=K (.bool (!b)):=px (fun w=>by simp[Op.unary]) K
@[push_cast] theorem not_decide (p:Prop) [Decidable p]:(!decide p)=decide (¬p):=by by_cases h:p<;>simp[h]
@[push_cast] theorem wrap_id64 (n:Int) (h1 : -9223372036854775808≤n) (h2:n≤9223372036854775807):IntKind.i64.wrap n=n:=by
 unfold IntKind.wrap
 simp[IntKind.bits,IntKind.signed]
 split<;>omega
@[push_cast] theorem wrap_id8 (n:Int) (h1:0≤n) (h2:n≤255):IntKind.u8.wrap n=n:=by
 simp only[IntKind.wrap,IntKind.bits,IntKind.signed,Bool.false_and,Bool.false_eq_true,if_false]
 omega
end arith
@[push_cast] theorem ConvX_int {P:Program} (s d:TypeId) (k:IntKind) (n:Int) (wb:World) (L:Own) (K:Value→World→Own→Prop):ConvX P s d (.int k n) wb L (tag K)=PureX P (convert s d (.int k n)) (tag fun v=>K v wb L):=(rfl)
abbrev str (l:List UInt8):Value:=.string ⟨l.toArray⟩
abbrev i64 (n:Int):Value:=.int .i64 n
section slices
variable {P:Program} {K:Value→Prop} {t el sz:Nat} (b off n c:Nat) (k:IntKind)
theorem idxS (ht:P.underlying t=some (.slice el)) (hs:(P.info? el).map (·.size)=some sz) (i:Int) (h0:0≤i) (h1:i < n) :
 PureX P (Instr.indexAt t (.slice (some ⟨b,off,none⟩) n c) (.int k i)) (tag K)=K (.pointer (some ⟨b,off+i.toNat * sz,none⟩)):=by
 refine px (fun w=>?_) K
 obtain ⟨inf,hi,hz⟩:∃ inf,P.info? el=some inf∧inf.size=sz:=by
  cases hh:P.info? el with
  | none=>rw[hh] at hs; cases hs
  | some inf=>rw[hh] at hs; simp at hs; exact ⟨inf,rfl,hs⟩
 simp only[Instr.indexAt,asIntOf,underlying,Sem.run_bind,Sem.run_pure,run_program,Result.andThen_ok,ht]
 simp only[h0,h1,and_self,if_true,sizeOf,typeInfo,Sem.run_bind,run_program,Result.andThen_ok,hi,Sem.run_pure,hz]
 unfold Addr.add
 split
 ·rename_i h; simp[h]
 ·rfl
theorem sliceBound_run {x:Nat} {code:BoundsCode} {i:Int} (h0:0≤i) (h1:i≤x) (w:World):(Instr.sliceBound (.int k i) x code).run P w=.ok i.toNat w:=by
 simp only[Instr.sliceBound,asIntOf,Sem.run_bind,Sem.run_pure,Result.andThen_ok,h0,h1,and_self,if_true]
theorem notArr {x:Value} {lo hi mx:Option Value} {el:TypeId} (ht:P.underlying t=some (.slice el)) (w:World):(Instr.sliceAt t x lo hi mx).run P w=(Instr.slice t x lo hi mx).run P w:=by
 simp only[Instr.sliceAt,underlying,Sem.run_bind,run_program,Result.andThen_ok,ht,Sem.run_pure]
theorem slHi (ht:P.underlying t=some (.slice el)) (hs:(P.info? el).map (·.size)=some sz) (i:Int) (a:Option Addr) (ha:∀ x,a=some x→x.spot=none) (h0:0≤i) (h1:i≤c) :
 PureX P (Instr.sliceAt t (.slice a n c) none (some (.int k i)) none) (tag K)=K (.slice a i.toNat c):=by
 refine px (fun w=>?_) K
 rw[notArr ht]
 obtain ⟨inf,hi,hz⟩:∃ inf,P.info? el=some inf∧inf.size=sz:=by
  cases hh:P.info? el with
  | none=>rw[hh] at hs; cases hs
  | some inf=>rw[hh] at hs; simp at hs; exact ⟨inf,rfl,hs⟩
 simp only[Instr.slice,underlying,Sem.run_bind,Sem.run_pure,run_program,Result.andThen_ok,ht,Instr.sliceBounds,sliceBound_run (P:=P) k h0 h1,sizeOf,typeInfo,hi,hz,Nat.sub_zero,Nat.zero_mul,if_true]
 congr 2
 split
 ·rfl
 ·cases a<;>simp[Addr.add]
theorem slLo (ht:P.underlying t=some (.slice el)) (hs:(P.info? el).map (·.size)=some sz) (i:Int) (h0:0≤i) (h1:i≤n) :
 PureX P (Instr.sliceAt t (.slice (some ⟨b,off,none⟩) n c) (some (.int k i)) none none) (tag K)=K (.slice (some ⟨b,if c=i.toNat then off else off+i.toNat * sz,none⟩) (n - i.toNat) (c - i.toNat)):=by
 refine px (fun w=>?_) K
 rw[notArr ht]
 obtain ⟨inf,hi,hz⟩:∃ inf,P.info? el=some inf∧inf.size=sz:=by
  cases hh:P.info? el with
  | none=>rw[hh] at hs; cases hs
  | some inf=>rw[hh] at hs; simp at hs; exact ⟨inf,rfl,hs⟩
 simp only[Instr.slice,underlying,Sem.run_bind,Sem.run_pure,run_program,Result.andThen_ok,ht,Instr.sliceBounds,sliceBound_run (P:=P) k h0 h1,sizeOf,typeInfo,hi,hz]
 congr 2
 split
 ·rfl
 ·simp only[Option.map_some,Addr.add]
  split
  ·rename_i h3; simp[h3]
  ·rfl
end slices
section strings
variable {P:Program} {K:Value→Prop} {t:Nat} (l m:List UInt8) (k:IntKind) (x y:Operand)
theorem idxStr (ht:P.underlying t=some .string) (i:Int) (h0:0≤i) (h1:i < l.length):PureX P (Instr.index t (str l) (.int k i)) (tag K)=K (.int .u8 (l.getD i.toNat 0).toNat):=by
 refine px (fun w=>?_) K
 have hg:(⟨l.toArray⟩:ByteArray)[i.toNat]?=some (l.getD i.toNat 0):=by
  show (if h:i.toNat < (⟨l.toArray⟩:ByteArray).size then some _ else none)=_
  have hs:i.toNat < (⟨l.toArray⟩:ByteArray).size:=by show i.toNat < l.length; omega
  rw[dif_pos hs]
  congr 1
  have hl:i.toNat < l.length:=by omega
  rw[List.getD_eq_getElem?_getD,List.getElem?_eq_getElem hl]
  rfl
 simp only[Instr.index,asIntOf,underlying,Sem.run_bind,Sem.run_pure,run_program,Result.andThen_ok,ht,h0,if_true,hg]
@[push_cast] theorem bin_str_eql:PureX P (binV .eql t x y (str l) (str m)) (tag K)=K (.bool (decide (l=m))):=px (fun w=>by
 simp[binV,eqGuard,binOp,Op.stringOp]; by_cases h:l=m<;>simp[h]) K
@[push_cast] theorem bin_str_neq:PureX P (binV .neq t x y (str l) (str m)) (tag K)=K (.bool (decide (l≠m))):=px (fun w=>by
 simp[binV,eqGuard,binOp,Op.stringOp]; by_cases h:l=m<;>simp[h]) K
@[push_cast] theorem bin_str_lss:PureX P (binV .lss t x y (str l) (str m)) (tag K)=K (.bool (Op.bytesLess l m)):=px (fun w=>by
 simp[binV,eqGuard,binOp,Op.stringOp]) K
@[push_cast] theorem bin_str_gtr:PureX P (binV .gtr t x y (str l) (str m)) (tag K)=K (.bool (!(Op.bytesLess l m || l == m))):=px (fun w=>by
 simp[binV,eqGuard,binOp,Op.stringOp]) K
@[push_cast] theorem bin_str_add (h:l.length+m.length≤9223372036854775807):PureX P (binV .add t x y (str l) (str m)) (tag K)=K (str (l++m)):=px (fun w=>by
 have h1:¬ (((⟨l.toArray⟩:ByteArray).size+(⟨m.toArray⟩:ByteArray).size:Nat):Int) > IntKind.i64.max:=by
  show ¬ ((l.length+m.length:Nat):Int) > IntKind.i64.max
  have:IntKind.i64.max=9223372036854775807:=by decide
  omega
 have h2:(⟨l.toArray⟩:ByteArray)++⟨m.toArray⟩=⟨(l++m).toArray⟩:=by
  apply ByteArray.ext
  simp
 simp only[binV,eqGuard,binOp,Op.stringOp,Sem.run_bind]
 rw[if_neg h1,h2]
 rfl) K
theorem eq_bool (ht:P.underlying t=some .bool) (a b:Bool) (d:Nat) (w:World):(Op.equalIn (d+1) t (.bool a) (.bool b)).run P w=.ok (a == b) w:=by
 unfold Op.equalIn
 simp only[underlying,Sem.run_bind,run_program,Result.andThen_ok,ht,Sem.run_pure]
theorem bin_bool_eql (ht:P.underlying t=some .bool) (a b:Bool):PureX P (binV .eql t x y (.bool a) (.bool b)) (tag K)=K (.bool (a == b)):=px (fun w=>by
 have h:(Op.equal t (.bool a) (.bool b)).run P w=.ok (a == b) w:=eq_bool ht a b 9999 w
 show ((do eqGuard .eql t x y (.bool a) (.bool b); (do pure (.bool (← Op.equal t (.bool a) (.bool b)))):Sem Value)).run P w=_
 have hg:eqGuard .eql t x y (.bool a) (.bool b)=pure ():=rfl
 rw[hg]
 simp only[Sem.run_bind,Sem.run_pure,Result.andThen_ok,h]) K
theorem bin_bool_neq (ht:P.underlying t=some .bool) (a b:Bool):PureX P (binV .neq t x y (.bool a) (.bool b)) (tag K)=K (.bool (a != b)):=px (fun w=>by
 have h:(Op.equal t (.bool a) (.bool b)).run P w=.ok (a == b) w:=eq_bool ht a b 9999 w
 show ((do eqGuard .neq t x y (.bool a) (.bool b); (do pure (.bool (!(← Op.equal t (.bool a) (.bool b))))):Sem Value)).run P w=_
 have hg:eqGuard .neq t x y (.bool a) (.bool b)=pure ():=rfl
 rw[hg]
 simp only[Sem.run_bind,Sem.run_pure,Result.andThen_ok,h]
 rfl) K
@[push_cast] theorem ext_two0 (u v:Value):PureX P (Instr.extract (.tuple #[u,v]) 0) (tag K)=K u:=px (fun w=>by simp[Instr.extract]) K
@[push_cast] theorem ext_two1 (u v:Value):PureX P (Instr.extract (.tuple #[u,v]) 1) (tag K)=K v:=px (fun w=>by simp[Instr.extract]) K
@[push_cast] theorem ext_three0 (u v z:Value):PureX P (Instr.extract (.tuple #[u,v,z]) 0) (tag K)=K u:=px (fun w=>by simp[Instr.extract]) K
@[push_cast] theorem ext_three1 (u v z:Value):PureX P (Instr.extract (.tuple #[u,v,z]) 1) (tag K)=K v:=px (fun w=>by simp[Instr.extract]) K
@[push_cast] theorem ext_three2 (u v z:Value):PureX P (Instr.extract (.tuple #[u,v,z]) 2) (tag K)=K z:=px (fun w=>by simp[Instr.extract]) K
end strings
section more
variable {P:Program} {K:Value→Prop} {t:Nat} (l:List UInt8) (k:IntKind)
theorem str_extract (a b:Nat):(⟨l.toArray⟩:ByteArray).extract a b=⟨((l.take b).drop a).toArray⟩:=by
 apply ByteArray.ext
 apply Array.ext'
 simp[ByteArray.data_extract,List.extract_eq_take_drop,List.drop_take]
theorem slStr (ht:P.underlying t=some .string) (i j:Int) (h0:0≤i) (h1:i≤j) (h2:j≤l.length) :
 PureX P (Instr.sliceAt t (str l) (some (.int k i)) (some (.int k j)) none) (tag K)=K (str ((l.take j.toNat).drop i.toNat)):=by
 refine px (fun w=>?_) K
 have hs:(⟨l.toArray⟩:ByteArray).size=l.length:=rfl
 simp only[Instr.sliceAt,Instr.slice,underlying,Sem.run_bind,Sem.run_pure,run_program,Result.andThen_ok,ht,Option.isSome_none,Bool.false_eq_true,if_false,Instr.sliceBounds,
  sliceBound_run (P:=P) k (show 0≤j by omega) (show j≤((⟨l.toArray⟩:ByteArray).size:Int) by rw[hs]; omega),sliceBound_run (P:=P) k h0 (show i≤(j.toNat:Nat) by omega),str_extract]
theorem slStrLo (ht:P.underlying t=some .string) (i:Int) (h0:0≤i) (h1:i≤l.length) :
 PureX P (Instr.sliceAt t (str l) (some (.int k i)) none none) (tag K)=K (str (l.drop i.toNat)):=by
 refine px (fun w=>?_) K
 have hs:(⟨l.toArray⟩:ByteArray).size=l.length:=rfl
 simp only[Instr.sliceAt,Instr.slice,underlying,Sem.run_bind,Sem.run_pure,run_program,Result.andThen_ok,ht,Option.isSome_none,Bool.false_eq_true,if_false,Instr.sliceBounds,
  sliceBound_run (P:=P) k h0 (show i≤((⟨l.toArray⟩:ByteArray).size:Int) by rw[hs]; omega),str_extract]
 rw[hs,List.take_length]
theorem slStrHi (ht:P.underlying t=some .string) (i:Int) (h0:0≤i) (h1:i≤l.length) :
 PureX P (Instr.sliceAt t (str l) none (some (.int k i)) none) (tag K)=K (str (l.take i.toNat)):=by
 refine px (fun w=>?_) K
 have hs:(⟨l.toArray⟩:ByteArray).size=l.length:=rfl
 simp only[Instr.sliceAt,Instr.slice,underlying,Sem.run_bind,Sem.run_pure,run_program,Result.andThen_ok,ht,Option.isSome_none,Bool.false_eq_true,if_false,Instr.sliceBounds,
  sliceBound_run (P:=P) k h0 (show i≤((⟨l.toArray⟩:ByteArray).size:Int) by rw[hs]; omega),str_extract,List.drop_zero]
end more
theorem allocX_eq {P:Program} {t:TypeId} {z:Value} (h:(P.info? t).bind (·.zero)=some z) (wb:World) (L:Own) (K:Value→Own→Prop) :
 AllocX P t wb L (tag K)=NewX wb L (.cells z.cells t (0,0)) (tag fun b L=>K (.pointer (some ⟨b,0,none⟩)) L):=by
 cases hi:P.info? t with
 | none=>rw[hi] at h; cases h
 | some i =>
  rw[hi] at h
  simp only[Option.bind_some] at h
  refine propext ⟨fun ⟨i',z',h1,h2,h3⟩=>?_,fun h3=>⟨i,z,hi,h,h3⟩⟩
  rw[hi] at h1
  cases h1
  rw[h] at h2
  cases h2
  exact h3
theorem valX_new {P:Program} {s:Sem Value} {wb:World} {L:Own} {o:Obj} {f:Nat→Value} {K:Value→World→Own→Prop} (hs:∀ w,s.run P w=.ok (f w.heap.size) (w.alloc o)) (h:NewX wb L o (tag fun b L=>K (f b) wb L)):ValX P s wb L (tag K) :=
 fun w hw=>⟨_,_,wb,_,hs w,hw.new o,h w.heap.size hw.size hw.fresh⟩
@[push_cast] theorem BoxX_eq (t:TypeId) (v:Value) (wb:World) (L:Own) (K:Value→Own→Prop):BoxX t v wb L (tag K)=NewX wb L (.cells v.cells t (0,0)) (tag fun b L=>K (.pointer (some ⟨b,0,none⟩)) L):=(rfl)
@[push_cast] theorem cells_agg (cs:Array Value):(Value.agg cs).cells=cs:=(rfl)
@[push_cast] theorem cells_int (k:IntKind) (n:Int):(Value.int k n).cells=#[.int k n]:=(rfl)
@[push_cast] theorem cells_bool (b:Bool):(Value.bool b).cells=#[.bool b]:=(rfl)
@[push_cast] theorem cells_string (s:ByteArray):(Value.string s).cells=#[.string s]:=(rfl)
@[push_cast] theorem cells_slice (a:Option Addr) (n c:Nat):(Value.slice a n c).cells=#[.slice a n c]:=(rfl)
@[push_cast] theorem cells_pointer (a:Option Addr):(Value.pointer a).cells=#[.pointer a]:=(rfl)
@[push_cast] theorem cells_func (f:Fn) (a b:Array Value):(Value.func f a b).cells=#[.func f a b]:=(rfl)
@[push_cast] theorem cells_map (a:Option Nat):(Value.map a).cells=#[.map a]:=(rfl)
@[push_cast] theorem cells_nilFunc:(Value.nilFunc).cells=#[.nilFunc]:=(rfl)
@[push_cast] theorem cells_iface (t:TypeId) (v:Value):(Value.iface t v).cells=#[.iface t v]:=(rfl)
@[push_cast] theorem cells_nilIface:(Value.nilIface).cells=#[.nilIface]:=(rfl)
attribute [push_cast] List.map_toArray List.map_cons List.map_nil Option.map_some Option.map_none Int.toNat_natCast Nat.zero_mul Nat.add_zero Nat.zero_add Nat.one_mul List.append_toArray List.nil_append List.append_nil List.cons_append List.set_cons_succ List.set_cons_zero List.length_cons List.length_nil List.drop_succ_cons List.drop_zero List.take_succ_cons List.take_zero splice ite_true ite_false if_true if_false eq_self true_and List.toList_toArray Int.toNat_zero Int.toNat_one
/-! ### The rules, in the walk's forms -/
theorem enterT {P:Program} {f:FuncId} {fn:Func} {code:Code} {args:List Value} {w:World} {L:Own} {R:Ending→World→Prop} (hf:P.funcs[f]?=some fn) (hb:fn.body=some code) {rs:List ResultVar} {n:Nat} (hn:fn.ntmps=n) (hrs:fn.results.toList=rs) (hok:okCode n code=true) (hsz:args.length≤n)
 (hL:Sy w L w) (h:VT ⟨P,n,none⟩ (tag code) (tag (retP P rs (tag R))) w (env0 args) [] L):Calls P f args.toArray w R:=by
 subst hn
 exact enter hf hb hrs hok hsz hL h
theorem loopT {c:Cfg} {wb:World} {e:Env} {ds:List Deferred} {L:Own} {G:Type} {body:Code} {Q:Post} (I:G→World→Env→List Deferred→Own→Prop) (μ:G→Nat) (g:G) (hok:okCode c.n body=true) (h0:I g wb e ds L)
 (hr:∀ g wb e ds L,I g wb e ds L→VT c (tag body) (tag (thenP (tag fun wb' e' ds' L'=>∃ g',I g' wb' e' ds' L'∧μ g' < μ g) (tag Q))) wb e ds L):SemT c (tag (.loop body)) (tag Q) wb e ds L :=
 loopX hok I μ g h0 hr
theorem drawQT {c:Cfg} {wb:World} {e:Env} {ds:List Deferred} {L:Own} {id:Nat} {ops:List Oper} {Q:Post} (hnd:noDefer ops.toArray=true) (hok:okOps c.n ops.toArray=true) (hm:c.P.follows .mixedOrders=true) (hB:Region.lexB .any ops.toArray=true)
 (h:VQT c (tag ops) wb L (tag fun e'=>Q .normal wb e' ds L) (tag ops) e):SemT c (tag (.region id ops.toArray true)) (tag Q) wb e ds L :=
 drawQ hnd hok hm hB h
theorem drawTT {c:Cfg} {wb:World} {e:Env} {ds:List Deferred} {L:Own} {id:Nat} {ops hd tl:List Oper} {Q:Post} (n:Nat) (hnd:noDefer ops.toArray=true) (hok:okOps c.n ops.toArray=true) (hm:c.P.follows .mixedOrders=true) (hB:Region.lexTailB .any ops.toArray n=true)
 (h1:ops.take n=hd) (h2:ops.drop n=tl)
 (h:VQT c (tag ops) wb L (tag fun e'=>VLT c (tag ops) (tag Q) (tag tl) wb e' ds L) (tag hd) e):SemT c (tag (.region id ops.toArray true)) (tag Q) wb e ds L:=by
 subst h1; subst h2
 exact drawT n hnd hok hm hB h
theorem callV {c:Cfg} {g:FuncId} {args:Array Value} {o:Oper} {wb:World} {e:Env} {ds:List Deferred} {L:Own} {K:Value→World→Own→Prop} {Kp:KP} (he:entersB c.P g=true) (h:CallX c.P g args wb L (tag K) (tag Kp)) :
 CallV c (.func (.func g) #[] #[]) args (tag o) wb e ds L (tag K) (tag Kp):=⟨he,by simpa using h⟩
theorem qcallV {c:Cfg} {g:FuncId} {args:Array Value} {wb:World} {L:Own} {K:Value→Prop} (he:entersB c.P g=true) (h:QCallX c.P g args wb L (tag K)) :
 QCallV c (.func (.func g) #[] #[]) args wb L (tag K):=⟨he,by simpa using h⟩
theorem entersB_of {P:Program} {g:FuncId} {fn:Func} (h:P.funcs[g]?=some fn) (h2:(fn.body.isSome && !(fn.name == "runtime.NumGoroutine"))=true):entersB P g=true:=by
 unfold entersB; rw[h]; exact h2
theorem bool_iff {a b:Bool} (h:a=true↔b=true):(Value.bool a)=.bool b:=by rw[Bool.eq_iff_iff.2 h]
theorem is_t {P:Prop} [Decidable P] (h:P):(Value.bool true)=.bool (decide P):=by simp[h]
theorem is_f {P:Prop} [Decidable P] (h:¬ P):(Value.bool false)=.bool (decide P):=by simp[h]
theorem is_d {P Q:Prop} [Decidable P] [Decidable Q] (h:P↔Q):(Value.bool (decide P))=.bool (decide Q):=by simp[h]
end Go.K
