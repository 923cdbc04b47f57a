/- YtilejcofleeeiaaGreatDoor: the walk calculus, part Ka: proved rules by which the walks of this seat are made. -/
import Derived.TacticsIn
import Derived.RangeFuncIn
import Derived.Below
import Derived.Defers
namespace Go.K
open Go
set_option linter.unusedVariables false
set_option linter.unusedSimpArgs false
structure Cfg where
 P:Program
 n:Nat
 r:Option Nat
def Cfg.F (c:Cfg):Fence:={ Fence.wide with round:=c.r }
theorem callsIn_of {P:Program} {r:Option Nat} {m:Nat} {f:FuncId} {args:Array Value} {w:World} {R:Ending→World→Prop} (h:Calls P f args w R) :
 CallsIn { Fence.wide with round:=r } m P f args w R :=
 ⟨trivial,fun cs _=>let ⟨e,w',fr,q,s,x⟩:=h cs; ⟨e,w',fr,q,comesIn_wide.2 s,x⟩⟩
theorem calls_of_in {P:Program} {r:Option Nat} {m:Nat} {f:FuncId} {args:Array Value} {w:World} {R:Ending→World→Prop}
 (h:CallsIn { Fence.wide with round:=r } m P f args w R):Calls P f args w R :=
 fun cs=>let ⟨e,w',fr,q,s,x⟩:=h.2 cs (room_wide _); ⟨e,w',fr,q,comesIn_wide.1 s,x⟩
abbrev Env:=Nat→Value
abbrev Own:=List (Nat×Obj)
def upd (e:Env) (d:Nat) (v:Value):Env:=fun t=>if t=d then v else e t
def puto (e:Env) (d:Option Nat) (v:Value):Env:=match d with|some d=>upd e d v|none=>e
def ev (e:Env):Operand→Value
 | .tmp t=>e t
 | .const v=>v
 | .global g=>.pointer (some ⟨g,0,none⟩)
 | .func f=>.func (.func f) #[] #[]
structure Sy (wb:World) (L:Own) (w:World):Prop where
 os:w.os=wb.os
 tape:w.tape=wb.tape
 output:w.output=wb.output
 size:wb.heap.size≤w.heap.size
 own:∀ b o,(b,o)∈L→w.heap[b]?=some o
 nodup:(L.map (·.1)).Nodup
 rest:∀ k,k < wb.heap.size→k∉L.map (·.1)→w.heap[k]?=wb.heap[k]?
structure Rep (n:Nat) (a:Act) (e:Env) (ds:List Deferred):Prop where
 size:a.tmps.size=n
 get:∀ t,a.tmps.getD t undef=e t
 defers:a.defers=ds
theorem Rep.eval {n:Nat} {a:Act} {e:Env} {ds:List Deferred} (h:Rep n a e ds):a.eval=ev e:=by
 funext x
 cases x with
 | tmp t=>exact h.get t
 | const v=>rfl
 | global g=>rfl
 | func f=>rfl
theorem Rep.put {n:Nat} {a:Act} {e:Env} {ds ds':List Deferred} (h:Rep n a e ds) (d:Option Nat) (hd:∀ k,d=some k→k < n) (v:Value) :
 Rep n ({ a with defers:=ds' }.put d v) (puto e d v) ds':=by
 cases d with
 | none=>exact ⟨h.size,h.get,rfl⟩
 | some k =>
  have hk:=hd k rfl
  refine ⟨by simp[Act.put,h.size],fun t=>?_,rfl⟩
  have hg:=h.get t
  simp only[Act.put,puto,upd]
  by_cases htk:t=k
  ·subst htk
   simp[h.size,hk]
  ·simp only[htk,if_false,← hg]
   simp only[Array.getD_eq_getD_getElem?,Array.getElem?_setIfInBounds]
   rw[if_neg (fun h=>htk h.symm)]
abbrev Post:=Exit→World→Env→List Deferred→Own→Prop
def lift (c:Cfg) (Q:Post):Exit→Act→World→Prop:=fun x a w=>∃ wb e ds L,Rep c.n a e ds∧Sy wb L w∧Q x wb e ds L
def SemX (c:Cfg) (code:Code) (Q:Post) (wb:World) (e:Env) (ds:List Deferred) (L:Own):Prop :=
 ∀ a w,Rep c.n a e ds→Sy wb L w→code.wpIn c.F 0 c.P (lift c Q) a w
abbrev KV:=Value→World→List Deferred→Own→Prop
abbrev KP:=List PanicEntry→World→Own→Prop
def OpS (c:Cfg) (o:Oper) (wb:World) (e:Env) (ds:List Deferred) (L:Own) (K:KV) (Kp:KP):Prop :=
 ∀ a w,Rep c.n a e ds→Sy wb L w→∀ (next:Act→World→Prop) (Q:Exit→Act→World→Prop),
  (∀ v wb' ds' L' w',K v wb' ds' L'→Sy wb' L' w'→next ({ a with defers:=ds' }.put o.dst v) w') →
  (∀ ch wb' L' w',Kp ch wb' L'→Sy wb' L' w'→Q (.panic ch) a w') →
  o.uponIn c.F 0 c.P a next Q ((o.semAt c.r a.eval).run c.P w)
/-! ### The nodes (a continuation stands behind a tag, so that simp does not look into it) -/
inductive Tag {α:Type} (_K:α):Type|mk
abbrev tag {α:Type} (K:α):Tag K:=.mk
def PutX (v:Value) {K:Value→Prop} (_:Tag K):Prop:=K v
def PickX (c a b:Value) {K:Value→Prop} (_:Tag K):Prop:=∃ t,c=.bool t∧K (if t then a else b)
def PureX (P:Program) (s:Sem Value) {K:Value→Prop} (_:Tag K):Prop:=∃ v,(∀ w,s.run P w=.ok v w)∧K v
def ValX (P:Program) (s:Sem Value) (wb:World) (L:Own) {K:Value→World→Own→Prop} (_:Tag K):Prop :=
 ∀ w,Sy wb L w→∃ v w' wb' L',s.run P w=.ok v w'∧Sy wb' L' w'∧K v wb' L'
def ConvX (P:Program) (s d:TypeId) (x:Value) (wb:World) (L:Own) {K:Value→World→Own→Prop} (_:Tag K):Prop :=
 match x with
 | .int k n=>PureX P (convert s d (.int k n)) (tag fun v=>K v wb L)
 | x=>ValX P (convert s d x) wb L (tag K)
def UnitX (P:Program) (s:Sem Unit) (wb:World) (L:Own) {K:World→Own→Prop} (_:Tag K):Prop :=
 ∀ w,Sy wb L w→∃ w' wb' L',s.run P w=.ok () w'∧Sy wb' L' w'∧K wb' L'
def LoadX (P:Program) (t:TypeId) (a:Value) (wb:World) (L:Own) {K:Value→Prop} (_:Tag K):Prop :=
 ∃ v,(∀ w,Sy wb L w→(Instr.loadAt t a).run P w=.ok v w)∧K v
def StoreX (P:Program) (t:TypeId) (a v:Value) (wb:World) (L:Own) {K:Own→Prop} (_:Tag K):Prop :=
 ∃ L',(∀ w,Sy wb L w→∃ w',(Instr.storeAt t a v).run P w=.ok () w'∧Sy wb L' w')∧K L'
def NewX (wb:World) (L:Own) (o:Obj) {K:Nat→Own→Prop} (_:Tag K):Prop:=∀ b,wb.heap.size≤b→b∉L.map (·.1)→K b ((b,o)::L)
def AllocX (P:Program) (t:TypeId) (wb:World) (L:Own) {K:Value→Own→Prop} (_:Tag K):Prop :=
 ∃ i z,P.info? t=some i∧i.zero=some z∧NewX wb L (.cells z.cells t (0,0)) (tag fun b L'=>K (.pointer (some ⟨b,0,none⟩)) L')
def BoxX (t:TypeId) (v:Value) (wb:World) (L:Own) {K:Value→Own→Prop} (_:Tag K):Prop :=
 NewX wb L (.cells v.cells t (0,0)) (tag fun b L'=>K (.pointer (some ⟨b,0,none⟩)) L')
def NilX (v:Value) {K:Value→Prop} (_:Tag K):Prop:=∃ a,v=.pointer (some a)∧K v
def CallX (P:Program) (f:FuncId) (args:Array Value) (wb:World) (L:Own) {K:Value→World→Own→Prop} (_:Tag K) {Kp:KP} (_:Tag Kp):Prop :=
 ∀ w,Sy wb L w→Calls P f args w fun e w'=>match e with
  | .returned v=>∃ wb' L',Sy wb' L' w'∧K v wb' L'
  | .panicked ch=>∃ wb' L',Sy wb' L' w'∧Kp ch wb' L'
  | .outgrown=>False
def entersB (P:Program) (g:FuncId):Bool:=match P.funcs[g]? with|some fn=>fn.body.isSome && !(fn.name == "runtime.NumGoroutine")|none=>false
def CallV (c:Cfg) (f:Value) (args:Array Value) {o:Oper} (_:Tag o) (wb:World) (e:Env) (ds:List Deferred) (L:Own) {K:Value→World→Own→Prop} (_:Tag K) {Kp:KP} (_:Tag Kp):Prop :=
 match f with
 | .func (.func g) first cap=>entersB c.P g=true∧CallX c.P g (first++args++cap) wb L (tag K) (tag Kp)
 | _=>OpS c o wb e ds L (fun v wb' ds' L'=>ds'=ds∧K v wb' L') Kp
def PanicX (v:Value) {K:List PanicEntry→Prop} (_:Tag K):Prop:=∃ t x,v=.iface t x∧K [{ v:=v,recovered:=false }]
def DeferX (c:Cfg) (s:Sem Deferred) {K:Deferred→Prop} (_:Tag K):Prop:=c.r=none∧∃ d,(∀ w,s.run c.P w=.ok d w)∧K d
def evp (e:Env) (p:Nat×Operand):Nat×Value:=(p.1,ev e p.2)
def opNode (c:Cfg) (o:Oper) (wb:World) (e:Env) (ds:List Deferred) (L:Own) (K:KV) (Kp:KP):Prop :=
 match o.op with
 | .move x | .assign x=>PutX (ev e x) (tag fun v=>K v wb ds L)
 | .pick x a b=>PickX (ev e x) (ev e a) (ev e b) (tag fun v=>K v wb ds L)
 | .alloc t=>AllocX c.P t wb L (tag fun v L'=>K v wb ds L')
 | .box t x=>BoxX t (ev e x) wb L (tag fun v L'=>K v wb ds L')
 | .build t parts=>PureX c.P (Instr.build t (parts.map (evp e))) (tag fun v=>K v wb ds L)
 | .buildSlice t len parts=>ValX c.P (Instr.buildSlice t len (parts.map (evp e))) wb L (tag fun v wb' L'=>K v wb' ds L')
 | .load t a=>LoadX c.P t (ev e a) wb L (tag fun v=>K v wb ds L)
 | .store t a x=>StoreX c.P t (ev e a) (ev e x) wb L (tag fun L'=>K undef wb ds L')
 | .nilCheck x=>NilX (ev e x) (tag fun v=>K v wb ds L)
 | .binOp op t x y _=>PureX c.P (do eqGuard op t x y (ev e x) (ev e y); binOp op t (ev e x) (ev e y)) (tag fun v=>K v wb ds L)
 | .unOp op _ x=>PureX c.P (Op.unary op (ev e x)) (tag fun v=>K v wb ds L)
 | .convert s d x=>ConvX c.P s d (ev e x) wb L (tag fun v wb' L'=>K v wb' ds L')
 | .makeInterface t x=>PureX c.P (Instr.makeInterface t (ev e x)) (tag fun v=>K v wb ds L)
 | .makeFunc fn first captured=>PureX c.P (Instr.makeFunc fn (first.map (ev e)) (captured.map (ev e))) (tag fun v=>K v wb ds L)
 | .makeMap t r=>ValX c.P (Instr.makeMap t (r.map (ev e))) wb L (tag fun v wb' L'=>K v wb' ds L')
 | .makeSlice t l m=>ValX c.P (Instr.makeSlice t (ev e l) (ev e m)) wb L (tag fun v wb' L'=>K v wb' ds L')
 | .slice t x lo hi mx=>PureX c.P (Instr.sliceAt t (ev e x) (lo.map (ev e)) (hi.map (ev e)) (mx.map (ev e))) (tag fun v=>K v wb ds L)
 | .fieldAddr s x f=>PureX c.P (Instr.fieldAt s (ev e x) f) (tag fun v=>K v wb ds L)
 | .field t x f=>PureX c.P (Instr.field t (ev e x) f) (tag fun v=>K v wb ds L)
 | .indexAddr t x i=>PureX c.P (Instr.indexAt t (ev e x) (ev e i)) (tag fun v=>K v wb ds L)
 | .index t x i=>PureX c.P (Instr.index t (ev e x) (ev e i)) (tag fun v=>K v wb ds L)
 | .lookup t x i ok=>ValX c.P (Instr.lookup t (ev e x) (ev e i) ok) wb L (tag fun v wb' L'=>K v wb' ds L')
 | .mapUpdate t m k x=>UnitX c.P (Instr.mapUpdate t (ev e m) (ev e k) (ev e x)) wb L (tag fun wb' L'=>K undef wb' ds L')
 | .typeAssert x t u ok=>PureX c.P (Instr.typeAssert (ev e x) t u ok) (tag fun v=>K v wb ds L)
 | .extract t i=>PureX c.P (Instr.extract (ev e t) i) (tag fun v=>K v wb ds L)
 | .panic x=>PanicX (ev e x) (tag fun ch=>Kp ch wb L)
 | .defer cl=>DeferX c (resolve (ev e) cl o.type) (tag fun d=>K undef wb (d::ds) L)
 | .call { callee:=.value f,args,.. }=>CallV c (ev e f) (args.map (ev e)) (tag o) wb e ds L (tag fun v wb' L'=>K v wb' ds L') (tag Kp)
 | .call { callee:=.builtin .len,args,argTypes }=>PureX c.P (Builtin.len_ argTypes o.type (args.map (ev e))) (tag fun v=>K v wb ds L)
 | .call { callee:=.builtin .min,args,argTypes }=>PureX c.P (Builtin.min_ argTypes o.type (args.map (ev e))) (tag fun v=>K v wb ds L)
 | .call { callee:=.builtin .max,args,argTypes }=>PureX c.P (Builtin.max_ argTypes o.type (args.map (ev e))) (tag fun v=>K v wb ds L)
 | .call { callee:=.builtin .append,args,argTypes }=>ValX c.P (Builtin.append_ argTypes o.type (args.map (ev e))) wb L (tag fun v wb' L'=>K v wb' ds L')
 | .call { callee:=.builtin .copy,args,argTypes }=>ValX c.P (Builtin.copy_ argTypes o.type (args.map (ev e))) wb L (tag fun v wb' L'=>K v wb' ds L')
 | .call { callee:=.builtin .cap,args,argTypes }=>PureX c.P (Builtin.cap_ argTypes o.type (args.map (ev e))) (tag fun v=>K v wb ds L)
 | _=>OpS c o wb e ds L K Kp
def gdst (all:List Oper) (j:Nat):Option Nat:=(all[j]?).bind (·.dst)
def GuardX (v:Value) (e:Env) (_d:Nat) (want:Bool) {A:Env→Prop} (_:Tag A) {B:Env→Prop} (_:Tag B):Prop:=(v=.bool want→A e)∧(v≠.bool want→B e)
def guardedO (d:Option Nat) (e:Env) (want:Bool) (A B:Env→Prop):Prop :=
 match d with
 | some d=>GuardX (e d) e d want (tag A) (tag B)
 | none=>B e
def guarded (all:List Oper) (e:Env) (g:Option (Nat×Bool)) (A B:Env→Prop):Prop :=
 match g with
 | none=>A e
 | some (j,want)=>guardedO (gdst all j) e want A B
def VL (c:Cfg) (all:List Oper) (Q:Post):List Oper→World→Env→List Deferred→Own→Prop
 | [],wb,e,ds,L=>Q .normal wb e ds L
 | o::rest,wb,e,ds,L=>guarded all e o.guard
  (fun e=>opNode c o wb e ds L (fun v wb' ds' L'=>VL c all Q rest wb' (puto e o.dst v) ds' L') (fun ch wb' L'=>Q (.panic ch) wb' e ds L'))
  (fun e=>VL c all Q rest wb (puto e o.dst undef) ds L)
def CondX (v:Value) {A:Prop} (_:Tag A) {B:Prop} (_:Tag B):Prop:=∃ t,v=.bool t∧(t=true→A)∧(t=false→B)
def SemT (c:Cfg) {code:Code} (_:Tag code) {Q:Post} (_:Tag Q) (wb:World) (e:Env) (ds:List Deferred) (L:Own):Prop:=SemX c code Q wb e ds L
def thenP {K:World→Env→List Deferred→Own→Prop} (_:Tag K) {Q:Post} (_:Tag Q):Post
 | .normal,wb,e,ds,L=>K wb e ds L
 | x,wb,e,ds,L=>Q x wb e ds L
def blockP (id:Nat) {Q:Post} (_:Tag Q):Post
 | .exit id',wb,e,ds,L=>if id'=id then Q .normal wb e ds L else Q (.exit id') wb e ds L
 | x,wb,e,ds,L=>Q x wb e ds L
def V (c:Cfg):Code→Post→World→Env→List Deferred→Own→Prop
 | .skip,Q,wb,e,ds,L=>Q .normal wb e ds L
 | .region id ops draw,Q,wb,e,ds,L=>if draw then SemT c (tag (.region id ops true)) (tag Q) wb e ds L else VL c ops.toList Q ops.toList wb e ds L
 | .seq a b,Q,wb,e,ds,L=>V c a (thenP (tag (V c b Q)) (tag Q)) wb e ds L
 | .cond x a b,Q,wb,e,ds,L=>CondX (ev e x) (tag (V c a Q wb e ds L)) (tag (V c b Q wb e ds L))
 | .block id b,Q,wb,e,ds,L=>V c b (blockP id (tag Q)) wb e ds L
 | .exit id,Q,wb,e,ds,L=>Q (.exit id) wb e ds L
 | .ret,Q,wb,e,ds,L=>Q .ret wb e ds L
 | .loop b,Q,wb,e,ds,L=>SemT c (tag (.loop b)) (tag Q) wb e ds L
 | .rangeFunc f ps a b,Q,wb,e,ds,L=>SemT c (tag (.rangeFunc f ps a b)) (tag Q) wb e ds L
 | .scope b,Q,wb,e,ds,L=>SemT c (tag (.scope b)) (tag Q) wb e ds L
 | .label _,Q,wb,e,ds,L=>Q .normal wb e ds L
 | .goto l,Q,wb,e,ds,L=>Q (.goto l) wb e ds L
 | .refuse _,_,_,_,_,_=>False
/-! ### They say what they mean -/
theorem Sy.refl (w:World):Sy w [] w:=⟨rfl,rfl,rfl,Nat.le_refl _,fun _ _ h=>by simp at h,by simp,fun _ _ _=>rfl⟩
theorem Sy.lt {wb w:World} {L:Own} (h:Sy wb L w) {b:Nat} {o:Obj} (hm:(b,o)∈L):b < w.heap.size :=
 (Array.getElem?_eq_some_iff.1 (h.own b o hm)).1
theorem Sy.drew {wb w:World} {L:Own} (h:Sy wb L w):Sy wb L { w with drawn:=w.drawn+1 }:=⟨h.os,h.tape,h.output,h.size,h.own,h.nodup,h.rest⟩
theorem Sy.new {wb w:World} {L:Own} (h:Sy wb L w) (o:Obj):Sy wb ((w.heap.size,o)::L) { w with heap:=w.heap.push o }:=by
 refine ⟨h.os,h.tape,h.output,by have:=h.size; simp; omega,fun b o' hm=>?_,?_,fun k hk hn=>?_⟩
 ·rcases List.mem_cons.1 hm with e|hm
  ·cases e; simp
  ·have:=h.lt hm
   show (w.heap.push o)[b]?=_
   rw[Array.getElem?_push,if_neg (by omega)]
   exact h.own b o' hm
 ·simp only[List.map_cons,List.nodup_cons]
  refine ⟨fun hm=>?_,h.nodup⟩
  obtain ⟨⟨b,o'⟩,hm,rfl⟩:=List.mem_map.1 hm
  exact absurd (h.lt hm) (Nat.lt_irrefl _)
 ·simp only[List.map_cons,List.mem_cons,not_or] at hn
  show (w.heap.push o)[k]?=_
  have:=h.size
  rw[Array.getElem?_push,if_neg (by omega)]
  exact h.rest k hk hn.2
theorem Sy.fresh {wb w:World} {L:Own} (h:Sy wb L w):w.heap.size∉L.map (·.1):=fun hm=>by
 obtain ⟨⟨b,o'⟩,hm,e⟩:=List.mem_map.1 hm
 have:=h.lt hm
 simp only at e
 omega
variable {c:Cfg} {o:Oper} {wb:World} {e:Env} {ds:List Deferred} {L:Own} {K:KV} {Kp:KP}
theorem semAt_exec (r:Option Nat) (ρ:Operand→Value) (o:Oper) (h:∀ cl,o.op≠.defer cl):o.semAt r ρ=execOp ρ o:=Oper.semAt_eq r ρ o h
theorem opS_val {s:Sem Value} (hs:∀ ρ,ρ=ev e→o.semAt c.r ρ=(do pure (.value (← s)))) (h:ValX c.P s wb L (tag fun v wb' L'=>K v wb' ds L')):OpS c o wb e ds L K Kp:=by
 intro a w hr hw next Q hn _
 rw[hs _ hr.eval]
 obtain ⟨v,w',wb',L',hrun,hsy,hk⟩:=h w hw
 have:(do pure (.value (← s)):Sem Next).run c.P w=.ok (.value v) w':=by simp[hrun]
 rw[this]
 have h2:=hn v wb' ds L' w' hk hsy
 rw[← hr.defers] at h2
 exact h2
theorem opS_unit {s:Sem Unit} (hs:∀ ρ,ρ=ev e→o.semAt c.r ρ=(do s; pure .skip)) (h:UnitX c.P s wb L (tag fun wb' L'=>K undef wb' ds L')):OpS c o wb e ds L K Kp:=by
 intro a w hr hw next Q hn _
 rw[hs _ hr.eval]
 obtain ⟨w',wb',L',hrun,hsy,hk⟩:=h w hw
 have:(do s; pure .skip:Sem Next).run c.P w=.ok .skip w':=by simp[hrun]
 rw[this]
 have h2:=hn undef wb' ds L' w' hk hsy
 rw[← hr.defers] at h2
 exact h2
theorem valX_pure {s:Sem Value} {K:Value→World→Own→Prop} (h:PureX c.P s (tag fun v=>K v wb L)):ValX c.P s wb L (tag K) :=
 fun w hw=>let ⟨v,hr,hk⟩:=h; ⟨v,w,wb,L,hr w,hw,hk⟩
theorem valX_load {t:TypeId} {x:Value} {K:Value→World→Own→Prop} (h:LoadX c.P t x wb L (tag fun v=>K v wb L)):ValX c.P (Instr.loadAt t x) wb L (tag K) :=
 fun w hw=>let ⟨v,hr,hk⟩:=h; ⟨v,w,wb,L,hr w hw,hw,hk⟩
theorem unitX_store {t:TypeId} {x y:Value} {K:World→Own→Prop} (h:StoreX c.P t x y wb L (tag fun L'=>K wb L')):UnitX c.P (Instr.storeAt t x y) wb L (tag K) :=
 fun w hw=>let ⟨L',hr,hk⟩:=h; let ⟨w',h1,h2⟩:=hr w hw; ⟨w',wb,L',h1,h2,hk⟩
theorem valX_box {t:TypeId} {x:Value} {K:Value→World→Own→Prop} (h:BoxX t x wb L (tag fun v L'=>K v wb L')):ValX c.P (Instr.box t x) wb L (tag K) :=
 fun w hw=>⟨_,_,wb,_,by simp[Instr.box,newVar,newRow],hw.new _,h w.heap.size hw.size hw.fresh⟩
theorem valX_alloc {t:TypeId} {K:Value→World→Own→Prop} (h:AllocX c.P t wb L (tag fun v L'=>K v wb L')):ValX c.P (Instr.alloc t true (.tuple #[])) wb L (tag K):=by
 intro w hw
 obtain ⟨i,z,hi,hz,hk⟩:=h
 refine ⟨_,_,wb,_,?_,hw.new _,hk w.heap.size hw.size hw.fresh⟩
 simp[Instr.alloc,zeroValue,typeInfo,hi,hz,newVar,newRow]
theorem enters_run {P:Program} {g:FuncId} (h:entersB P g=true) (as:Array Value) (w:World):(callFunc g as).run P w=.ok (.enter g as) w:=by
 unfold entersB at h
 simp only[callFunc,Sem.run_bind,run_program,Result.andThen_ok]
 cases hf:P.funcs[g]? with
 | none=>rw[hf] at h; cases h
 | some fn =>
  rw[hf] at h
  simp only[Bool.and_eq_true,Bool.not_eq_true'] at h
  simp only[h.2]
  cases hb:fn.body with
  | none=>rw[hb] at h; simp at h
  | some b=>simp
theorem opS_call {f:Operand} {args:Array Operand} {ats:Array TypeId} (ho:o.op=.call { callee:=.value f,args:=args,argTypes:=ats })
 (h:CallV c (ev e f) (args.map (ev e)) (tag o) wb e ds L (tag fun v wb' L'=>K v wb' ds L') (tag Kp)):OpS c o wb e ds L K Kp:=by
 unfold CallV at h
 split at h
 ·rename_i g first cap hf
  obtain ⟨hcf,h⟩:=h
  intro a w hr hw next Q hn hp
  have hsem:o.semAt c.r a.eval=(do let d ← resolve (ev e) { callee:=.value f,args:=args,argTypes:=ats } o.type; invoke d.target d.args):=by
   rw[semAt_exec _ _ _ (by rw[ho]; intro cl h; cases h),hr.eval]
   simp only[execOp,ho]
  rw[hsem]
  have hrun:(do let d ← resolve (ev e) { callee:=.value f,args:=args,argTypes:=ats } o.type; invoke d.target d.args).run c.P w=.ok (.enter g (first++args.map (ev e)++cap)) w:=by
   simp[resolve,hf,Deferred.ofValue,invoke,enters_run hcf]
  rw[hrun]
  refine ⟨fun h=>by simp[Cfg.F,Fence.wide] at h,callsIn_of ((h w hw).mono ?_)⟩
  intro en w' hq
  cases en with
  | returned v =>
   obtain ⟨wb',L',hsy,hk⟩:=hq
   have h2:=hn v wb' ds L' w' hk hsy
   rw[← hr.defers] at h2
   exact h2
  | panicked ch =>
   obtain ⟨wb',L',hsy,hk⟩:=hq
   exact hp ch wb' L' w' hk hsy
  | outgrown=>exact hq.elim
 ·intro a w hr hw next Q hn hp
  exact h a w hr hw next Q (fun v wb' ds' L' w' ⟨e1,hk⟩ hsy=>by subst e1; exact hn v wb' _ L' w' hk hsy) hp
theorem opS_pick {x a b:Operand} (ho:o.op=.pick x a b) (h:PickX (ev e x) (ev e a) (ev e b) (tag fun v=>K v wb ds L)):OpS c o wb e ds L K Kp:=by
 obtain ⟨t,ht,hk⟩:=h
 refine opS_val (s:=pure (if t then ev e a else ev e b)) (fun ρ hρ=>?_) (valX_pure ⟨_,fun _=>rfl,hk⟩)
 subst hρ
 rw[semAt_exec _ _ _ (by rw[ho]; intro cl h; cases h)]
 simp only[execOp,ho,ht]
 rfl
theorem opS_nil {x:Operand} (ho:o.op=.nilCheck x) (h:NilX (ev e x) (tag fun v=>K v wb ds L)):OpS c o wb e ds L K Kp:=by
 obtain ⟨t,ht,hk⟩:=h
 refine opS_val (s:=pure (ev e x)) (fun ρ hρ=>?_) (valX_pure ⟨_,fun _=>rfl,hk⟩)
 subst hρ
 rw[semAt_exec _ _ _ (by rw[ho]; intro cl h; cases h)]
 simp only[execOp,ho,ht]
 rfl
theorem opS_panic {x:Operand} (ho:o.op=.panic x) (h:PanicX (ev e x) (tag fun ch=>Kp ch wb L)):OpS c o wb e ds L K Kp:=by
 obtain ⟨t,u,ht,hk⟩:=h
 intro a w hr hw next Q hn hp
 rw[semAt_exec _ _ _ (by rw[ho]; intro cl h; cases h),hr.eval]
 simp only[execOp,ho]
 have:(do pure (.value (← Instr.panic (ev e x))):Sem Next).run c.P w=.halt (.panic (ev e x)) w:=by rw[ht]; simp[Instr.panic]
 rw[this]
 exact hp _ wb L w hk hw
theorem opS_defer {cl:Call} (ho:o.op=.defer cl) (h:DeferX c (resolve (ev e) cl o.type) (tag fun d=>K undef wb (d::ds) L)):OpS c o wb e ds L K Kp:=by
 obtain ⟨hc,d,hd,hk⟩:=h
 intro a w hr hw next Q hn hp
 rw[hc,Oper.semAt_none,hr.eval]
 simp only[execOp,ho]
 have:(do pure (.defer (← resolve (ev e) cl o.type)):Sem Next).run c.P w=.ok (.defer d) w:=by simp[hd]
 rw[this]
 have h2:=hn undef wb (d::ds) L w hk hw
 rw[← hr.defers] at h2
 exact h2
theorem opS_conv {s d:TypeId} {x:Operand} (ho:o.op=.convert s d x) (h:ConvX c.P s d (ev e x) wb L (tag fun v wb' L'=>K v wb' ds L')):OpS c o wb e ds L K Kp:=by
 refine opS_val (s:=convert s d (ev e x)) (fun ρ hρ=>?_) ?_
 ·subst hρ
  rw[semAt_exec _ _ _ (by rw[ho]; intro cl h; cases h)]
  simp only[execOp,ho]
 ·unfold ConvX at h
  split at h
  ·rename_i k n hx; rw[hx]; exact valX_pure h
  ·exact h
theorem opS_of_node (h:opNode c o wb e ds L K Kp):OpS c o wb e ds L K Kp:=by
 have hx:∀ ρ,(∀ cl,o.op≠.defer cl)→o.semAt c.r ρ=execOp ρ o:=fun ρ h=>semAt_exec _ _ _ h
 unfold opNode at h
 split at h
 all_goals first
  | exact h
  | (rename_i ho; exact opS_call ho h)
  | (rename_i ho; exact opS_pick ho h)
  | (rename_i ho; exact opS_nil ho h)
  | (rename_i ho; exact opS_panic ho h)
  | (rename_i ho; exact opS_defer ho h)
  | (rename_i ho; exact opS_conv ho h)
  | (rename_i x ho; refine opS_val (s:=pure (ev e x)) (fun ρ hρ=>?_) (valX_pure ⟨_,fun _=>rfl,h⟩); subst hρ; rw[hx _ (by rw[ho]; intro cl h; cases h)]; simp only[execOp,ho]; rfl)
  | (rename_i ho; refine opS_val (fun ρ hρ=>?_) (valX_pure h); subst hρ; rw[hx _ (by rw[ho]; intro cl h; cases h)]; simp only[execOp,ho]; first|done|rfl)
  | (rename_i ho; refine opS_val (fun ρ hρ=>?_) (valX_load h); subst hρ; rw[hx _ (by rw[ho]; intro cl h; cases h)]; simp only[execOp,ho])
  | (rename_i ho; refine opS_val (fun ρ hρ=>?_) (valX_box h); subst hρ; rw[hx _ (by rw[ho]; intro cl h; cases h)]; simp only[execOp,ho])
  | (rename_i ho; refine opS_val (fun ρ hρ=>?_) (valX_alloc h); subst hρ; rw[hx _ (by rw[ho]; intro cl h; cases h)]; simp only[execOp,ho])
  | (rename_i ho; refine opS_val (fun ρ hρ=>?_) h; subst hρ; rw[hx _ (by rw[ho]; intro cl h; cases h)]; simp only[execOp,ho]; first|done|rfl)
  | (rename_i ho; refine opS_unit (fun ρ hρ=>?_) (unitX_store h); subst hρ; rw[hx _ (by rw[ho]; intro cl h; cases h)]; simp only[execOp,ho])
  | (rename_i ho; refine opS_unit (fun ρ hρ=>?_) h; subst hρ; rw[hx _ (by rw[ho]; intro cl h; cases h)]; simp only[execOp,ho])
def okOps (n:Nat) (ops:Array Oper):Bool:=ops.all fun o=>match o.dst with|some d=>decide (d < n)|none=>true
def okCode (n:Nat):Code→Bool
 | .region _ ops _=>okOps n ops
 | .seq a b | .cond _ a b=>okCode n a && okCode n b
 | .block _ b | .loop b | .scope b=>okCode n b
 | .rangeFunc _ ps a b=>ps.all (fun p=>decide (p < n)) && okCode n a && okCode n b
 | _=>true
theorem guard_spec {n:Nat} {a:Act} {ops:Array Oper} (hr:Rep n a e ds) (j:Nat) (want:Bool) {A B:Env→Prop} (h:guarded ops.toList e (some (j,want)) A B) :
 ((yielded ops a.tmps j == some want)=true∧A e)∨((yielded ops a.tmps j == some want)=false∧B e):=by
 unfold guarded guardedO gdst at h
 simp only[Array.getElem?_toList] at h
 unfold yielded
 cases h1:(ops[j]?).bind (·.dst) with
 | none=>rw[h1] at h; exact .inr ⟨by simp,h⟩
 | some d =>
  rw[h1] at h
  have hg:=hr.get d
  simp only[Option.bind_some]
  have key:((match a.tmps[d]? with|some (.bool b)=>some b|_=>none) == some want)=true↔e d=.bool want:=by
   rw[← hg,Array.getD_eq_getD_getElem?]
   cases h2:a.tmps[d]? with
   | none=>simp[undef]
   | some v=>cases v<;>simp
  by_cases hb:e d=.bool want
  ·exact .inl ⟨key.2 hb,h.1 hb⟩
  ·refine .inr ⟨?_,h.2 hb⟩
   rw[Bool.eq_false_iff]
   exact fun hh=>hb (key.1 hh)
theorem lift_mono {Q Q':Post} (h:∀ x wb e ds L,Q x wb e ds L→Q' x wb e ds L):∀ x a w,lift c Q x a w→lift c Q' x a w :=
 fun _ _ _ ⟨wb,e,ds,L,h1,h2,h3⟩=>⟨wb,e,ds,L,h1,h2,h _ _ _ _ _ h3⟩
theorem VL_sound {Q:Post} {ops:Array Oper} (hok:okOps c.n ops=true):∀ (rest:List Oper),(∀ o∈rest,o∈ops.toList)→∀ wb e ds L a w,
 VL c ops.toList Q rest wb e ds L→Rep c.n a e ds→Sy wb L w→wpListIn c.F 0 c.P ops (lift c Q) rest a w:=by
 intro rest
 induction rest with
 | nil=>intro _ wb e ds L a w h hr hw; exact ⟨wb,e,ds,L,hr,hw,h⟩
 | cons o rest ih =>
  intro hin wb e ds L a w h hr hw
  have ih':=ih (fun o ho=>hin o (List.mem_cons_of_mem _ ho))
  have hd:∀ k,o.dst=some k→k < c.n:=fun k hk=>by
   have h1:=Array.all_eq_true'.1 hok o (Array.mem_toList_iff.1 (hin o (List.mem_cons_self ..)))
   rw[hk] at h1
   simpa using h1
  have yes:opNode c o wb e ds L (fun v wb' ds' L'=>VL c ops.toList Q rest wb' (puto e o.dst v) ds' L') (fun ch wb' L'=>Q (.panic ch) wb' e ds L') →
   o.wpIn c.F 0 c.P a w (wpListIn c.F 0 c.P ops (lift c Q) rest) (lift c Q):=fun h=>by
   refine ⟨fun _ _=>trivial,opS_of_node h a w hr hw _ _ (fun v wb' ds' L' w' hk hsy=>?_) (fun ch wb' L' w' hk hsy=>?_)⟩
   ·exact ih' wb' _ ds' L' _ w' hk (hr.put o.dst hd v) hsy
   ·exact ⟨wb',e,ds,L',hr,hsy,hk⟩
  have no:VL c ops.toList Q rest wb (puto e o.dst undef) ds L→wpListIn c.F 0 c.P ops (lift c Q) rest (a.put o.dst undef) w:=fun h=>by
   have h2:=ih' wb _ ds L _ w h (hr.put (ds':=ds) o.dst hd undef) hw
   rw[← hr.defers] at h2
   exact h2
  unfold VL at h
  unfold wpListIn
  cases hg:o.guard with
  | none =>
   rw[hg] at h
   rw[if_pos (by simp[Region.wanted,hg])]
   exact yes h
  | some g =>
   obtain ⟨j,want⟩:=g
   rw[hg] at h
   rcases guard_spec (ops:=ops) hr j want h with ⟨h1,h2⟩|⟨h1,h2⟩
   ·rw[if_pos (by simp only[Region.wanted,hg]; exact h1)]
    exact yes h2
   ·rw[if_neg (by simp only[Region.wanted,hg,h1]; exact Bool.false_ne_true)]
    exact ⟨fun _ _=>trivial,no h2⟩
theorem V_sound:∀ (code:Code) (Q:Post) (wb:World) (e:Env) (ds:List Deferred) (L:Own),okCode c.n code=true→V c code Q wb e ds L→SemX c code Q wb e ds L:=by
 intro code
 induction code with
 | skip=>intro Q wb e ds L _ h a w hr hw; exact wpIn_skip ⟨wb,e,ds,L,hr,hw,h⟩
 | region id ops draw =>
  intro Q wb e ds L hok h a w hr hw
  unfold V at h
  cases draw with
  | true=>exact h a w hr hw
  | false=>exact wpIn_region_list (VL_sound hok ops.toList (fun _ h=>h) wb e ds L a w h hr hw)
 | seq x y ihx ihy =>
  intro Q wb e ds L hok h a w hr hw
  simp only[okCode,Bool.and_eq_true] at hok
  refine wpIn_seq (wpIn_mono (ihx _ wb e ds L hok.1 h a w hr hw) ?_)
  rintro x' a' w' ⟨wb',e',ds',L',hr',hw',hq⟩
  cases x'<;>first|exact ihy Q wb' e' ds' L' hok.2 hq a' w' hr' hw' | exact ⟨wb',e',ds',L',hr',hw',hq⟩
 | cond x y z ihy ihz =>
  intro Q wb e ds L hok h a w hr hw
  simp only[okCode,Bool.and_eq_true] at hok
  obtain ⟨t,ht,h1,h2⟩:=h
  refine wpIn_cond (t:=t) (by rw[hr.eval]; exact ht) ?_
  cases t with
  | true=>exact ihy Q wb e ds L hok.1 (h1 rfl) a w hr hw
  | false=>exact ihz Q wb e ds L hok.2 (h2 rfl) a w hr hw
 | block id y ih =>
  intro Q wb e ds L hok h a w hr hw
  refine wpIn_block (wpIn_mono (ih _ wb e ds L hok h a w hr hw) ?_)
  rintro x' a' w' ⟨wb',e',ds',L',hr',hw',hq⟩
  cases x' with
  | exit id' =>
   simp only[blockP] at hq
   simp only[Exit.inBlock]
   split
   ·rename_i hid; rw[if_pos hid] at hq; exact ⟨wb',e',ds',L',hr',hw',hq⟩
   ·rename_i hid; rw[if_neg hid] at hq; exact ⟨wb',e',ds',L',hr',hw',hq⟩
  | _=>exact ⟨wb',e',ds',L',hr',hw',hq⟩
 | loop y _=>intro Q wb e ds L _ h; exact h
 | rangeFunc f ps x y _ _=>intro Q wb e ds L _ h; exact h
 | exit id=>intro Q wb e ds L _ h a w hr hw; exact wpIn_exit ⟨wb,e,ds,L,hr,hw,h⟩
 | scope y _=>intro Q wb e ds L _ h; exact h
 | label l=>intro Q wb e ds L _ h a w hr hw; exact wpIn_label ⟨wb,e,ds,L,hr,hw,h⟩
 | goto l=>intro Q wb e ds L _ h a w hr hw; exact wpIn_goto ⟨wb,e,ds,L,hr,hw,h⟩
 | ret=>intro Q wb e ds L _ h a w hr hw; exact wpIn_ret ⟨wb,e,ds,L,hr,hw,h⟩
 | refuse _=>intro Q wb e ds L _ h; exact h.elim
end Go.K
