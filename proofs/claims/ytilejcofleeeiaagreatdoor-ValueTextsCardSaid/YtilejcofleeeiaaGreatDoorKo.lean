/- YtilejcofleeeiaaGreatDoor: the walk calculus, part Ko: proved rules by which the walks of this seat are made. -/
import Derived.Test.YtilejcofleeeiaaGreatDoorKn
namespace Go.K
open Go
open List renaming getElem?_eq_getElem → qH
set_option linter.unusedVariables false
set_option linter.unusedSimpArgs false
/-! ### Drawn regions: what only reads goes ahead; the rest has its one order -/
def rdO:Operand→List Nat
 | .tmp t=>[t]
 | _=>[]
def rdM:Option Operand→List Nat
 | some x=>rdO x
 | none=>[]
def rdOp:Op→Option (List Nat)
 | .move x | .assign x | .box _ x | .nilCheck x | .unOp _ _ x | .convert _ _ x | .fieldAddr _ x _ | .field _ x _ | .extract x _ | .load _ x=>some (rdO x)
 | .pick x a b=>some (rdO x++rdO a++rdO b)
 | .alloc _=>some []
 | .build _ parts | .buildSlice _ _ parts=>some (parts.toList.flatMap fun p=>rdO p.2)
 | .store _ a x | .binOp _ _ a x _ | .indexAddr _ a x | .index _ a x=>some (rdO a++rdO x)
 | .slice _ x lo hi mx=>some (rdO x++rdM lo++rdM hi++rdM mx)
 | .call { callee:=.value f,args,.. }=>some (rdO f++args.toList.flatMap rdO)
 | .call { callee:=.builtin _,args,.. }=>some (args.toList.flatMap rdO)
 | _=>none
theorem ev_rd {e e':Env} {x:Operand} (h:∀ t∈rdO x,e t=e' t):ev e x=ev e' x:=by
 cases x with
 | tmp t=>exact h t (by simp[rdO])
 | _=>rfl
theorem ev_rdM {e e':Env} {x:Option Operand} (h:∀ t∈rdM x,e t=e' t):x.map (ev e)=x.map (ev e'):=by
 cases x with
 | none=>rfl
 | some x=>simp only[Option.map_some]; rw[ev_rd h]
theorem map_rd {e e':Env} {as:Array Operand} (h:∀ t∈as.toList.flatMap rdO,e t=e' t):as.map (ev e)=as.map (ev e'):=by
 apply Array.map_congr_left
 intro x hx
 exact ev_rd fun t ht=>h t (List.mem_flatMap.2 ⟨x,by simpa using hx,ht⟩)
theorem parts_rd {e e':Env} {as:Array (Nat×Operand)} (h:∀ t∈as.toList.flatMap (fun p=>rdO p.2),e t=e' t):(as.map fun (i,x)=>(i,ev e x))=as.map fun (i,x)=>(i,ev e' x):=by
 apply Array.map_congr_left
 intro x hx
 show (x.1,ev e x.2)=(x.1,ev e' x.2)
 rw[ev_rd fun t ht=>h t (List.mem_flatMap.2 ⟨x,by simpa using hx,ht⟩)]
theorem exec_rd {e e':Env} {o:Oper} {l:List Nat} (hl:rdOp o.op=some l) (h:∀ t∈l,e t=e' t):execOp (ev e) o=execOp (ev e') o:=by
 have app:∀ {a b:List Nat},(∀ t∈a++b,e t=e' t)→(∀ t∈a,e t=e' t)∧(∀ t∈b,e t=e' t):=fun h=>⟨fun t ht=>h t (List.mem_append_left _ ht),fun t ht=>h t (List.mem_append_right _ ht)⟩
 unfold rdOp at hl
 split at hl<;>cases hl
 all_goals (rename_i ho; simp only[execOp,ho])
 all_goals first
  | (rw[ev_rd h])
  | (obtain ⟨h12,h3⟩:=app h; obtain ⟨h1,h2⟩:=app h12; rw[ev_rd h1,ev_rd h2,ev_rd h3]; done)
  | (rw[parts_rd h])
  | (obtain ⟨h1,h2⟩:=app h; rw[ev_rd h1,ev_rd h2]; done)
  | (obtain ⟨h123,h4⟩:=app h; obtain ⟨h12,h3⟩:=app h123; obtain ⟨h1,h2⟩:=app h12; rw[ev_rd h1,ev_rdM h2,ev_rdM h3,ev_rdM h4]; done)
  | (obtain ⟨h1,h2⟩:=app h; simp only[resolve]; rw[ev_rd h1,map_rd h2]; done)
  | (simp only[resolve]; rw[map_rd h]; done)
  | rfl
def actOf (n:Nat) (e:Env) (ds:List Deferred):Act:=⟨((List.range n).map e).toArray,ds⟩
theorem actOf_rep {n:Nat} {e:Env} {ds:List Deferred} (hu:∀ t,n≤t→e t=undef):Rep n (actOf n e ds) e ds:=by
 refine ⟨by simp[actOf],fun t=>?_,rfl⟩
 simp only[actOf,Array.getD_eq_getD_getElem?,List.getElem?_toArray,List.getElem?_map]
 rcases Nat.lt_or_ge t n with h|h
 ·simp[h]
 ·rw[List.getElem?_eq_none (by simpa using h)]
  simp[hu t h]
theorem Rep.undef {n:Nat} {a:Act} {e:Env} {ds:List Deferred} (h:Rep n a e ds):∀ t,n≤t→e t=Go.undef:=fun t ht=>by
 rw[← h.get t,Array.getD_eq_getD_getElem?,Array.getElem?_eq_none (by rw[h.size]; exact ht)]
 rfl
theorem put_inj {n:Nat} {a:Act} {d:Option Nat} {v v':Value} {ds ds':List Deferred} (hs:a.tmps.size=n) (hd:∀ k,d=some k→k < n) (h:({ a with defers:=ds }:Act).put d v=({ a with defers:=ds' }:Act).put d v'):ds=ds'∧(d.isSome=true→v=v'):=by
 cases d with
 | none =>
  simp only[Act.put,Act.mk.injEq,true_and] at h
  exact ⟨h,fun h=>by cases h⟩
 | some k =>
  simp only[Act.put,Act.mk.injEq] at h
  refine ⟨h.2,fun _=>?_⟩
  have hk:=hd k rfl
  have h2:=congrArg (·[k]?) h.1
  simp[hs,hk] at h2
  exact h2
variable {c:Cfg} {wb:World} {L:Own} {ds:List Deferred}
theorem opS_rd {o:Oper} {e e':Env} {K:KV} {Kp:KP} {l:List Nat} (hl:rdOp o.op=some l) (h:∀ t∈l,e t=e' t) (hd:∀ k,o.dst=some k→k < c.n) (hnd:∀ cl,o.op≠.defer cl)
 (hu:∀ t,c.n≤t→e t=undef) (H:OpS c o wb e ds L K Kp):OpS c o wb e' ds L K Kp:=by
 intro a w hr hw next Q h1 h2
 have hr0:=actOf_rep (n:=c.n) (e:=e) (ds:=ds) hu
 have h0:=H (actOf c.n e ds) w hr0 hw (fun a1 w1=>∀ v ds',a1=({ actOf c.n e ds with defers:=ds' }:Act).put o.dst v→next (({ a with defers:=ds' }:Act).put o.dst v) w1) (fun x a1 w1=>Q x a w1)
  (fun v wb' ds' L' w' hk hsy v2 ds2 heq=>by
   obtain ⟨e1,e2⟩:=put_inj (n:=c.n) hr0.size hd heq
   subst e1
   have h3:=h1 v wb' ds' L' w' hk hsy
   cases hdst:o.dst with
   | none=>rw[hdst] at h3; exact h3
   | some k =>
    have:=e2 (by rw[hdst]; rfl)
    subst this
    rw[hdst] at h3; exact h3)
  (fun ch wb' L' w' hk hsy=>h2 ch wb' L' w' hk hsy)
 have hsem:o.semAt c.r (actOf c.n e ds).eval=o.semAt c.r a.eval:=by
  rw[semAt_exec _ _ _ hnd,semAt_exec _ _ _ hnd,hr0.eval,hr.eval,exec_rd hl h]
 rw[hsem] at h0
 have hdef:a.defers=ds:=hr.defers
 have key:∀ v w1,(∀ v2 ds2,(actOf c.n e ds).put o.dst v=({ actOf c.n e ds with defers:=ds2 }:Act).put o.dst v2→next (({ a with defers:=ds2 }:Act).put o.dst v2) w1)→next (a.put o.dst v) w1:=fun v w1 hh=>by
  have:=hh v ds rfl
  rw[← hdef] at this
  exact this
 generalize (o.semAt c.r a.eval).run c.P w=r at *
 cases r with
 | ok x w1 =>
  cases x with
  | value v=>exact key v w1 h0
  | skip=>exact key undef w1 h0
  | defer d =>
   have:=h0 undef (d::ds) rfl
   rw[← hdef] at this
   exact this
  | enter f args =>
   refine ⟨h0.1,h0.2.mono fun en w2 hq=>?_⟩
   cases en with
   | returned v=>exact key v w2 hq
   | panicked ch=>exact hq
   | outgrown=>obtain ⟨_,w,hh⟩:=hq; exact ⟨a,w,hh⟩
  | row r args=>exact ⟨h0.1,h0.2.mono fun v w2 hq=>key v w2 hq⟩
  | round l f tm A B =>
   refine ⟨h0.1,h0.2.mono fun en w2 hq=>?_⟩
   cases en with
   | returned v=>exact key v w2 hq
   | panicked ch=>exact hq
   | outgrown=>obtain ⟨_,w,hh⟩:=hq; exact ⟨a,w,hh⟩
  | _=>exact h0.elim
 | halt x w1 =>
  cases x with
  | panic v=>exact h0
  | _=>exact h0.elim
/-! The parts of a region -/
def bdeps (ops:List Oper) (i:Nat):List Nat:=match ops[i]? with|some o=>(o.after.toList.filter fun e=>Region.binds .any e).map (·.on)|none=>[]
def dstN (ops:List Oper) (i:Nat):Option Nat:=(ops[i]?).bind (·.dst)
def rdsN (ops:List Oper) (i:Nat):List Nat:=match ops[i]? with|some o=>(rdOp o.op).getD []|none=>[]
def quietOp:Op→Bool
 | .call { callee:=.value _,.. } | .alloc _ | .box _ _ | .buildSlice _ _ _ | .store _ _ _=>false
 | .call { callee:=.builtin .len,.. } | .call { callee:=.builtin .cap,.. } | .call { callee:=.builtin .min,.. } | .call { callee:=.builtin .max,.. }=>true
 | .call _=>false
 | _=>true
def opOK (o:Oper) (i:Nat):Bool:=o.guard.isNone && (rdOp o.op).isSome && (o.after.toList.all fun e=>!Region.binds .any e || decide (e.on < i))
def pairOK (ops:List Oper) (hs:List Nat) (i j:Nat):Bool :=
 match dstN ops j with
 | none=>true
 | some s =>
  if i=j then !(hs.contains i && (rdsN ops i).contains s) else
  !(dstN ops i == some s) && (!(rdsN ops i).contains s || (if hs.contains j then (bdeps ops i).contains j else if hs.contains i then (bdeps ops j).contains i else true))
def chainN (ops:List Oper):List Nat→Bool
 | []=>true
 | [_]=>true
 | p::q::l=>(bdeps ops q).contains p && chainN ops (q::l)
def freeB (ops:List Oper) (hs ts:List Nat):Bool :=
 (List.range ops.length).all (fun i=>(hs.contains i != ts.contains i) && (match ops[i]? with|some o=>opOK o i|none=>false)) &&
 hs.all (fun i=>decide (i < ops.length) && (match ops[i]? with|some o=>quietOp o.op|none=>false) && (bdeps ops i).all (hs.contains ·)) && ts.all (fun i=>decide (i < ops.length)) &&
 decide hs.Nodup && decide ts.Nodup && decide (hs.Pairwise (· < ·)) &&
 (List.range ops.length).all fun i=>(List.range ops.length).all fun j=>pairOK ops hs i j
def QY (c:Cfg) (wb:World) (Lq:Own) (o:Oper) (e:Env) (v:Value):Prop:=∀ w,Sy wb Lq w→(execOp (ev e) o).run c.P w=.ok (.value v) w
theorem qy_val {o:Oper} {e:Env} {Lq:Own} {K:Value→Prop} {s:Sem Value} (hs:execOp (ev e) o=(do pure (.value (← s)))) (h:∃ v,(∀ w,Sy wb Lq w→s.run c.P w=.ok v w)∧K v):∃ v,QY c wb Lq o e v∧K v:=by
 obtain ⟨v,h1,h2⟩:=h
 refine ⟨v,fun w hw=>?_,h2⟩
 rw[hs]
 simp[h1 w hw]
theorem qy_of_node {o:Oper} {e:Env} {Lq:Own} {K:Value→Prop} (hq:quietOp o.op=true) (h:qNode c o wb e Lq K):∃ v,QY c wb Lq o e v∧K v:=by
 unfold qNode at h
 split at h
 all_goals first
  | (rename_i ho; rw[ho] at hq; cases hq; done)
  | (rename_i x ho; refine qy_val (c:=c) (s:=pure (ev e x)) ?_ ⟨_,fun _ _=>rfl,h⟩; simp only[execOp,ho]; rfl)
  | (rename_i ho; obtain ⟨t,ht,h⟩:=h; rename_i x y z; refine qy_val (c:=c) (s:=pure (if t then ev e y else ev e z)) ?_ ⟨_,fun _ _=>rfl,h⟩; simp only[execOp,ho,ht]; rfl)
  | (rename_i x ho; obtain ⟨t,ht,h⟩:=h; refine qy_val (c:=c) (s:=pure (ev e x)) ?_ ⟨_,fun _ _=>rfl,h⟩; simp only[execOp,ho,ht]; rfl)
  | (rename_i ho; refine qy_val (c:=c) ?_ (quiet_pure h); simp only[execOp,ho]; first|done|rfl)
  | (rename_i ho; refine qy_val (c:=c) ?_ h; simp only[execOp,ho]; first|done|rfl)
  | exact h.elim
def VF (c:Cfg) (wb:World) (Lq:Own) (Q:Post):List Oper→Env→List Deferred→Own→Prop
 | [],e,ds,L=>Q .normal wb e ds L
 | o::rest,e,ds,L=>opNode c o wb e ds L (fun v wb' ds' L'=>wb'=wb∧(∀ w,Sy wb L' w→Sy wb Lq w)∧VF c wb Lq Q rest (puto e o.dst v) ds' L') (fun _ _ _=>False)
def foldQ (ops:List Oper) (val:Nat→Value) (l:List Nat) (e:Env):Env:=l.foldl (fun e i=>puto e (dstN ops i) (val i)) e
theorem foldQ_other {ops:List Oper} {val:Nat→Value} {s:Nat}:∀ (l:List Nat) (e:Env),(∀ i∈l,dstN ops i≠some s)→foldQ ops val l e s=e s
 | [],_,_=>rfl
 | i::l,e,h=>by
  show foldQ ops val l (puto e (dstN ops i) (val i)) s=e s
  rw[foldQ_other l _ (fun j hj=>h j (by simp[hj]))]
  have:=h i (by simp)
  cases hd:dstN ops i with
  | none=>rfl
  | some k =>
   rw[hd] at this
   simp only[puto,upd]
   rw[if_neg (fun h=>this (by rw[h]))]
theorem foldQ_mem {ops:List Oper} {val:Nat→Value} {s i:Nat} (hi:dstN ops i=some s) (hinj:∀ j,dstN ops j=some s→j=i):∀ (l:List Nat) (e:Env),i∈l→foldQ ops val l e s=val i
 | j::l,e,h=>by
  show foldQ ops val l (puto e (dstN ops j) (val j)) s=val i
  by_cases hl:i∈l
  ·exact foldQ_mem hi hinj l _ hl
  ·have hji:j=i:=by
    rcases List.mem_cons.1 h with h|h
    ·exact h.symm
    ·exact absurd h hl
   subst hji
   rw[foldQ_other l _ (fun k hk hd=>hl (by rw[← hinj k hd]; exact hk)),hi]
   simp[puto,upd]
theorem foldQ_congr {ops:List Oper} {val val':Nat→Value}:∀ (l:List Nat) (e:Env),(∀ i∈l,val i=val' i)→foldQ ops val l e=foldQ ops val' l e
 | [],_,_=>rfl
 | i::l,e,h=>by
  show foldQ ops val l (puto e (dstN ops i) (val i))=foldQ ops val' l (puto e (dstN ops i) (val' i))
  rw[h i (by simp)]
  exact foldQ_congr l _ (fun j hj=>h j (by simp[hj]))
theorem quiet_phase {ops:List Oper} {Lq:Own} {K:Env→Prop}:∀ (hs:List Nat) (e:Env),hs.Nodup→(∀ i∈hs,∃ o,ops[i]?=some o∧o.guard=none∧quietOp o.op=true)→VQ c ops wb Lq K (hs.filterMap (ops[·]?)) e →
 ∃ val:Nat→Value,K (foldQ ops val hs e)∧∀ k i,hs[k]?=some i→∀ o,ops[i]?=some o→QY c wb Lq o (foldQ ops val (hs.take k) e) (val i)
 | [],e,_,_,h=>⟨fun _=>undef,h,fun k i hk=>by simp at hk⟩
 | i::hs,e,hn,hq,h=>by
  obtain ⟨o,ho,hg,hqo⟩:=hq i (by simp)
  rw[List.filterMap_cons,ho] at h
  unfold VQ guarded at h
  rw[hg] at h
  obtain ⟨v,hy,h2⟩:=qy_of_node hqo h
  obtain ⟨val,hK,hall⟩:=quiet_phase hs _ (List.nodup_cons.1 hn).2 (fun j hj=>hq j (by simp[hj])) h2
  have hni:i∉hs:=(List.nodup_cons.1 hn).1
  have hdst:dstN ops i=o.dst:=by simp[dstN,ho]
  have hcon:∀ l:List Nat,(∀ j∈l,j∈hs)→∀ e,foldQ ops (fun j=>if j=i then v else val j) l e=foldQ ops val l e:=fun l hl e=>foldQ_congr l e (fun j hj=>by
   rw[if_neg (fun h=>hni (by rw[← h]; exact hl j hj))])
  refine ⟨fun j=>if j=i then v else val j,?_,fun k j hk o' ho'=>?_⟩
  ·show K (foldQ ops (fun j=>if j=i then v else val j) hs (puto e (dstN ops i) (if i=i then v else val i)))
   rw[hcon hs (fun j hj=>hj),if_pos rfl,hdst]
   exact hK
  ·cases k with
   | zero =>
    simp only[List.getElem?_cons_zero,Option.some.injEq] at hk
    subst hk
    rw[ho] at ho'
    cases ho'
    simpa [foldQ] using hy
   | succ k =>
    simp only[List.getElem?_cons_succ] at hk
    have hj:j∈hs:=List.mem_of_getElem? hk
    have:=hall k j hk o' ho'
    show QY c wb Lq o' (foldQ ops (fun j=>if j=i then v else val j) (hs.take k) (puto e (dstN ops i) (if i=i then v else val i))) (if j=i then v else val j)
    have hji:j≠i:=fun h=>hni (by rw[← h]; exact hj)
    rw[show (if i=i then v else val i)=v from if_pos rfl,show (if j=i then v else val j)=val j from if_neg hji,hcon _ (fun x hx=>List.mem_of_mem_take hx),hdst]
    exact this
structure FreeOK (ops:List Oper) (hs ts:List Nat):Prop where
 part:∀ i,i < ops.length→(i∈hs∧i∉ts)∨(i∉hs∧i∈ts)
 op:∀ i o,ops[i]?=some o→o.guard=none∧(∃ l,rdOp o.op=some l)∧∀ d∈bdeps ops i,d < i
 quiet:∀ i,i∈hs→i < ops.length∧(∀ o,ops[i]?=some o→quietOp o.op=true)∧∀ d∈bdeps ops i,d∈hs
 tail:∀ i,i∈ts→i < ops.length
 hn:hs.Nodup
 tn:ts.Nodup
 asc:hs.Pairwise (· < ·)
 pair:∀ i j,i < ops.length→j < ops.length→pairOK ops hs i j=true
theorem freeOK_of {ops:List Oper} {hs ts:List Nat} (h:freeB ops hs ts=true):FreeOK ops hs ts:=by
 simp only[freeB,Bool.and_eq_true,List.all_eq_true,List.mem_range,decide_eq_true_eq] at h
 obtain ⟨⟨⟨⟨⟨⟨h1,h2⟩,h3⟩,h5⟩,h6⟩,h7⟩,h8⟩:=h
 refine ⟨fun i hi=>?_,fun i o ho=>?_,fun i hi=>?_,h3,h5,h6,h7,fun i j hi hj=>h8 i hi j hj⟩
 ·have:=(h1 i hi).1
  by_cases a:i∈hs<;>by_cases b:i∈ts<;>simp[a,b] at this ⊢
 ·have hi:=(List.getElem?_eq_some_iff.1 ho).1
  have:=(h1 i hi).2
  rw[ho] at this
  simp only[opOK,Bool.and_eq_true,Option.isNone_iff_eq_none,List.all_eq_true,Bool.or_eq_true,Bool.not_eq_true',decide_eq_true_eq] at this
  refine ⟨this.1.1,Option.isSome_iff_exists.1 this.1.2,fun d hd=>?_⟩
  simp only[bdeps,ho,List.mem_map,List.mem_filter] at hd
  obtain ⟨e,⟨he,hb⟩,rfl⟩:=hd
  rcases this.2 e he with h|h
  ·rw[hb] at h; cases h
  ·exact h
 ·obtain ⟨⟨a,b⟩,c⟩:=h2 i hi
  refine ⟨a,fun o ho=>by rw[ho] at b; exact b,fun d hd=>?_⟩
  have:=c d hd
  simpa using this
theorem dst_lt {ops:List Oper} {i s:Nat} (h:dstN ops i=some s):i < ops.length:=by
 unfold dstN at h
 cases ho:ops[i]? with
 | none=>rw[ho] at h; cases h
 | some o=>exact (List.getElem?_eq_some_iff.1 ho).1
theorem FreeOK.dst_inj {ops:List Oper} {hs ts:List Nat} (F:FreeOK ops hs ts) {i j s:Nat} (hi:dstN ops i=some s) (hj:dstN ops j=some s):j=i:=by
 by_cases h:i=j
 ·exact h.symm
 ·have:=F.pair i j (dst_lt hi) (dst_lt hj)
  unfold pairOK at this
  rw[hj] at this
  simp only[h,if_false,Bool.and_eq_true,Bool.not_eq_true'] at this
  rw[hi] at this
  simp at this
theorem FreeOK.reads {ops:List Oper} {hs ts:List Nat} (F:FreeOK ops hs ts) {i j s:Nat} (hil:i < ops.length) (hj:dstN ops j=some s) (hr:s∈rdsN ops i) :
 (i=j∧i∉hs)∨(i≠j∧j∈hs∧j∈bdeps ops i)∨(i≠j∧j∉hs∧(i∈hs→i∈bdeps ops j)):=by
 have:=F.pair i j hil (dst_lt hj)
 unfold pairOK at this
 rw[hj] at this
 by_cases h:i=j
 ·subst h
  refine .inl ⟨rfl,fun hh=>?_⟩
  simp[hh,hr] at this
 ·simp only[h,if_false,Bool.and_eq_true,Bool.not_eq_true',Bool.or_eq_true] at this
  obtain ⟨_,h2⟩:=this
  rcases h2 with h2|h2
  ·have h3:(rdsN ops i).contains s=true:=by simpa using hr
   rw[h3] at h2
   cases h2
  ·by_cases hjh:j∈hs
   ·refine .inr (.inl ⟨h,hjh,?_⟩)
    simpa [hjh] using h2
   ·refine .inr (.inr ⟨h,hjh,fun hih=>?_⟩)
    simpa [hjh,hih] using h2
theorem chain_pred {ops:List Oper}:∀ {ts:List Nat} {h i:Nat} {rest:List Nat},chainN ops ts=true→ts=h::rest→i∈rest→∃ p∈ts,p∈bdeps ops i
 | [],_,_,_,_,h,_=>by cases h
 | [x],_,i,_,_,h,hi=>by cases h; cases hi
 | p::q::l,h,i,rest,hc,heq,hi=>by
  simp only[List.cons.injEq] at heq
  obtain ⟨rfl,rfl⟩:=heq
  simp only[chainN,Bool.and_eq_true] at hc
  rcases List.mem_cons.1 hi with rfl|hi
  ·exact ⟨p,by simp,by simpa using hc.1⟩
  ·obtain ⟨x,hx,hd⟩:=chain_pred (ts:=q::l) hc.2 rfl hi
   exact ⟨x,by simp only[List.mem_cons] at hx ⊢; exact .inr hx,hd⟩
theorem chain_suffix {ops:List Oper}:∀ (pre:List Nat) {ts:List Nat},chainN ops (pre++ts)=true→chainN ops ts=true
 | [],_,h=>h
 | [x],[],_=>rfl
 | [x],q::l,h=>by simp only[List.cons_append,List.nil_append,chainN,Bool.and_eq_true] at h; exact h.2
 | x::y::pre,ts,h=>by
  simp only[List.cons_append,chainN,Bool.and_eq_true] at h
  exact chain_suffix (y::pre) h.2
def ordB (ops:List Oper) (ts:List Nat) (T:List (List Nat)):Bool :=
 (T.all fun t=>ts.all (t.contains ·) && t.all (ts.contains ·) && decide t.Nodup && chainN ops t.tail) && ts.all fun i=>(T.any fun t=>t.head? == some i) || ts.any fun p=>(bdeps ops i).contains p
structure OrdOK (ops:List Oper) (R:List Nat) (T:List (List Nat)):Prop where
 mem:∀ t∈T,∀ i,i∈t↔i∈R
 nd:∀ t∈T,t.Nodup
 ch:∀ t∈T,chainN ops t.tail=true
 hd:∀ i∈R,(∃ rest,i::rest∈T)∨∃ p∈R,p∈bdeps ops i
theorem ordOK_of {ops:List Oper} {ts:List Nat} {T:List (List Nat)} (h:ordB ops ts T=true):OrdOK ops ts T:=by
 simp only[ordB,Bool.and_eq_true,List.all_eq_true,decide_eq_true_eq,Bool.or_eq_true,List.any_eq_true,List.contains_iff_mem,beq_iff_eq] at h
 obtain ⟨h1,h2⟩:=h
 refine ⟨fun t ht i=>⟨fun hi=>(h1 t ht).1.1.2 i hi,fun hi=>(h1 t ht).1.1.1 i hi⟩,fun t ht=>(h1 t ht).1.2,fun t ht=>(h1 t ht).2,fun i hi=>?_⟩
 rcases h2 i hi with ⟨t,ht,he⟩|⟨p,hp,hd⟩
 ·cases t with
  | nil=>cases he
  | cons x rest=>simp only[List.head?_cons,Option.some.injEq] at he; subst he; exact .inl ⟨rest,ht⟩
 ·exact .inr ⟨p,hp,hd⟩
theorem OrdOK.next {ops:List Oper} {R:List Nat} {T:List (List Nat)} {i:Nat} {rest:List Nat} (h:OrdOK ops R T) (ht:i::rest∈T):OrdOK ops rest [rest]:=by
 have hc:chainN ops rest=true:=h.ch _ ht
 refine ⟨fun t ht i=>by rw[List.mem_singleton.1 ht],fun t ht'=>by rw[List.mem_singleton.1 ht']; exact (List.nodup_cons.1 (h.nd _ ht)).2,fun t ht=>?_,fun j hj=>?_⟩
 ·rw[List.mem_singleton.1 ht]
  cases rest with
  | nil=>rfl
  | cons x l=>exact chain_suffix [x] hc
 ·cases rest with
  | nil=>cases hj
  | cons x l =>
   rcases List.mem_cons.1 hj with rfl|hj
   ·exact .inl ⟨l,.head _⟩
   ·exact .inr (chain_pred hc rfl hj)
structure FreeI (ops:List Oper) (hs ts:List Nat) (c:Cfg) (wb:World) (Lq:Own) (val:Nat→Value) (U:List Nat) (listed:Array Bool) (e Ec:Env) (R:List Nat):Prop where
 size:listed.size=ops.length
 un:U.Nodup
 ul:∀ i∈U,i < ops.length
 iff:∀ i,i < ops.length→(listed.getD i true=false↔i∈U)
 closed:∀ j,j < ops.length→j∉U→∀ d∈bdeps ops j,d∉U
 split:∀ t∈ts,t∈U→t∈R
 sub:∀ t∈R,t∈ts
 suf:∀ t∈R,t∈U
 agree:∀ s,(∀ i∈hs,i∈U→dstN ops i≠some s)→e s=Ec s
 qv:∀ i∈hs,∀ s,dstN ops i=some s→Ec s=val i
 qy:∀ i∈hs,i∈U→∀ o,ops[i]?=some o→QY c wb Lq o Ec (val i)
theorem done_of {ops:List Oper} {hs ts:List Nat} {Lq:Own} {val:Nat→Value} {U:List Nat} {listed:Array Bool} {e Ec:Env} {R:List Nat} (I:FreeI ops hs ts c wb Lq val U listed e Ec R) (F:FreeOK ops hs ts) {d:Nat} (hd:listed.getD d false=true):d∉U:=fun h=>by
 have h1:=(I.iff d (I.ul d h)).2 h
 rw[getD_both h1] at hd
 cases hd
theorem free_main {ops:Array Oper} {hs ts:List Nat} {Lq:Own} {val:Nat→Value} {Q:Post} (F:FreeOK ops.toList hs ts) (hok:okOps c.n ops=true):∀ (fuel:Nat) (U:List Nat) (listed:Array Bool) (a:Act) (w:World) (e Ec:Env) (ds:List Deferred) (L:Own) (R:List Nat) (T:List (List Nat)),
 U.length=fuel→FreeI ops.toList hs ts c wb Lq val U listed e Ec R→OrdOK ops.toList R T→(R=[]→[]∈T)→(∀ w,Sy wb L w→Sy wb Lq w)→Rep c.n a e ds→Sy wb L w→(∀ t∈T,VF c wb Lq Q (t.filterMap (ops.toList[·]?)) Ec ds L) →
 wpAnyIn { Fence.wide with round:=c.r } 0 c.P .any ops (lift c Q) fuel listed a w:=by
 have hget:∀ i:Nat,ops[i]?=ops.toList[i]?:=fun i=>Array.getElem?_toList.symm
 have hdl:∀ (i:Nat) (o:Oper),ops.toList[i]?=some o→∀ k,o.dst=some k→k < c.n:=fun i o ho k hk=>by
  have h1:=Array.all_eq_true'.1 hok o (Array.mem_toList_iff.1 (List.mem_of_getElem? ho))
  rw[hk] at h1
  simpa using h1
 have hdst:∀ (i:Nat) (o:Oper),ops.toList[i]?=some o→dstN ops.toList i=o.dst:=fun i o ho=>by simp[dstN,ho]
 intro fuel
 induction fuel with
 | zero =>
  intro U listed a w e Ec ds L R T hU I hT hT0 hst hr hw hV
  have hU0:U=[]:=List.eq_nil_of_length_eq_zero hU
  subst hU0
  refine ⟨?_,?_⟩
  ·rw[List.eq_nil_iff_forall_not_mem]
   intro i hi
   obtain ⟨h1,o,ho,_⟩:=mem_ready.1 hi
   rw[hget] at ho
   have:=(I.iff i (List.getElem?_eq_some_iff.1 ho).1).1 h1
   cases this
  ·have hts:R=[]:=by
    cases R with
    | nil=>rfl
    | cons t l=>have:=I.suf t (by simp); cases this
   have hV:=hV [] (hT0 hts)
   have he:e=Ec:=funext fun s=>I.agree s (fun i _ h=>by cases h)
   subst he
   exact ⟨wb,e,ds,L,hr,hw,hV⟩
 | succ fuel ih =>
  intro U listed a w e Ec ds L R T hU I hT hT0 hst hr hw hV
  have hall:∀ i∈Region.ready .any ops listed,i∈U∧i < ops.toList.length∧∃ o,ops.toList[i]?=some o∧∀ d∈bdeps ops.toList i,d∉U:=fun i hi=>by
   obtain ⟨h1,o,ho,h2⟩:=mem_ready.1 hi
   rw[hget] at ho
   have hlt:=(List.getElem?_eq_some_iff.1 ho).1
   refine ⟨(I.iff i hlt).1 h1,hlt,o,ho,fun d hd=>?_⟩
   simp only[bdeps,ho,List.mem_map,List.mem_filter] at hd
   obtain ⟨x,⟨hx,hb⟩,rfl⟩:=hd
   exact done_of I F (h2 x (by simpa using hx) hb)
  have hne:∀ i,i∈U→Region.ready .any ops listed≠[]:=by
   intro i
   induction i using Nat.strongRecOn with
   | _ i ihs =>
    intro hi hnil
    have hlt:=I.ul i hi
    obtain ⟨o,ho⟩:∃ o,ops.toList[i]?=some o:=⟨_,qH hlt⟩
    by_cases hdeps:∀ d∈bdeps ops.toList i,d∉U
    ·have:i∈Region.ready .any ops listed:=mem_ready.2 ⟨(I.iff i hlt).2 hi,o,by rw[hget]; exact ho,fun x hx hb=>by
      have hd:x.on∈bdeps ops.toList i:=by
       simp only[bdeps,ho,List.mem_map,List.mem_filter]
       exact ⟨x,⟨by simpa using hx,hb⟩,rfl⟩
      have hnu:=hdeps _ hd
      have hxl:x.on < ops.toList.length:=Nat.lt_trans ((F.op i o ho).2.2 _ hd) hlt
      have h3:listed.getD x.on true≠false:=fun h=>hnu ((I.iff _ hxl).1 h)
      cases h4:listed.getD x.on false with
      | true=>rfl
      | false=>exact absurd (getD_in (by rw[I.size]; exact hxl) h4) h3⟩
     rw[hnil] at this
     cases this
    ·simp only[Classical.not_forall,Classical.not_not] at hdeps
     obtain ⟨d,hd,hdU⟩:=hdeps
     exact ihs d ((F.op i o ho).2.2 d hd) hdU hnil
  refine ⟨fun hnil=>?_,fun i hi=>?_⟩
  ·cases U with
   | nil=>cases hU
   | cons x l=>exact absurd hnil (hne x (by simp))
  obtain ⟨hiU,hil,o,ho,hdep⟩:=hall i hi
  obtain ⟨hg,⟨rl,hrl⟩,hlt⟩:=F.op i o ho
  have hrd:rdsN ops.toList i=rl:=by simp[rdsN,ho,hrl]
  have hnd:∀ cl,o.op≠.defer cl:=fun cl h=>by rw[h] at hrl; cases hrl

  have hU':(U.erase i).length=fuel:=by rw[List.length_erase_of_mem hiU,hU]; rfl
  have mem':∀ j,j∈U.erase i↔j≠i∧j∈U:=fun j=>I.un.mem_erase_iff
  have hsz:(listed.setIfInBounds i true).size=ops.toList.length:=by simpa using I.size
  have hiff:∀ j,j < ops.toList.length→((listed.setIfInBounds i true).getD j true=false↔j∈U.erase i):=fun j hj=>by
   rw[mem']
   by_cases hij:i=j
   ·subst hij
    have:i < listed.size:=by rw[I.size]; exact hil
    simp[this]
   ·rw[getD_set_ne true hij,I.iff j hj]
    constructor
    ·exact fun h=>⟨fun h2=>hij h2.symm,h⟩
    ·exact fun h=>h.2
  have hclosed:∀ j,j < ops.toList.length→j∉U.erase i→∀ d∈bdeps ops.toList j,d∉U.erase i:=fun j hj hjU d hd hdU=>by
   have hdU2:=((mem' d).1 hdU).2
   by_cases hji:j=i
   ·subst hji; exact hdep d hd hdU2
   ·exact I.closed j hj (fun h=>hjU ((mem' j).2 ⟨hji,h⟩)) d hd hdU2

  have hreads:∀ t∈rl,e t=Ec t:=fun t ht=>I.agree t (fun j hj hjU hdj=>by
   rcases F.reads hil hdj (by rw[hrd]; exact ht) with ⟨h1,h2⟩|⟨_,_,h3⟩|⟨_,h2,_⟩
   ·subst h1; exact h2 hj
   ·exact hdep j h3 hjU
   ·exact h2 hj)
  unfold wpOpIn
  rw[hget,ho]
  simp only
  rw[if_pos (by simp[Region.wanted,hg])]
  rcases F.part i hil with ⟨hih,hit⟩|⟨hih,hit⟩
  ·
   have hq:=I.qy i hih hiU o ho w (hst w hw)
   rw[← exec_rd hrl hreads] at hq
   refine ⟨fun _ _=>trivial,?_⟩
   rw[semAt_exec _ _ _ hnd,hr.eval,hq]
   show wpAnyIn _ 0 c.P .any ops (lift c Q) fuel (listed.setIfInBounds i true) (a.put o.dst (val i)) w
   have hput:Rep c.n (a.put o.dst (val i)) (puto e o.dst (val i)) ds:=by
    have:=hr.put (ds':=ds) o.dst (hdl i o ho) (val i)
    rwa [← hr.defers] at this ⊢
   refine ih (U.erase i) _ _ w _ Ec ds L R T hU' ⟨hsz,I.un.erase i,fun j hj=>I.ul j ((mem' j).1 hj).2,hiff,hclosed,fun t ht h=>I.split t ht ((mem' t).1 h).2,I.sub,fun t ht=>(mem' t).2 ⟨fun h=>hit (by rw[← h]; exact I.sub t ht),I.suf t ht⟩,fun s hs=>?_,I.qv,fun j hj hjU=>I.qy j hj ((mem' j).1 hjU).2⟩ hT hT0 hst hput hw hV
   by_cases hds:dstN ops.toList i=some s
   ·rw[I.qv i hih s hds]
    rw[hdst i o ho] at hds
    rw[hds]
    simp[puto,upd]
   ·have h1:puto e o.dst (val i) s=e s:=by
     rw[hdst i o ho] at hds
     cases hd:o.dst with
     | none=>rfl
     | some k=>simp only[puto,upd]; rw[if_neg (fun h=>hds (by rw[hd,h]))]
    rw[h1]
    refine I.agree s (fun j hj hjU hdj=>?_)
    by_cases hji:j=i
    ·subst hji; exact hds hdj
    ·exact hs j hj ((mem' j).2 ⟨hji,hjU⟩) hdj
  ·
   have hits:i∈R:=I.split i hit hiU
   obtain ⟨rest,hrest⟩:∃ rest,i::rest∈T:=by
    rcases hT.hd i hits with h|⟨p,hp,hpd⟩
    ·exact h
    ·exact absurd (I.suf p hp) (hdep p hpd)
   have hmR:∀ t,t∈i::rest↔t∈R:=hT.mem _ hrest
   have hnr:i∉rest:=(List.nodup_cons.1 (hT.nd _ hrest)).1
   have hV:=hV _ hrest
   rw[List.filterMap_cons,ho] at hV
   have hO:=opS_of_node hV
   have hO2:=opS_rd hrl (fun t ht=>(hreads t ht).symm) (hdl i o ho) hnd (fun t ht=>?_) hO
   ·refine ⟨fun _ _=>trivial,hO2 a w hr hw _ _ (fun v wb' ds' L' w' hk hsy=>?_) (fun ch wb' L' w' hk hsy=>hk.elim)⟩
    obtain ⟨rfl,hst',hV'⟩:=hk
    refine ih (U.erase i) _ _ w' (puto e o.dst v) (puto Ec o.dst v) ds' L' rest [rest] hU' ⟨hsz,I.un.erase i,fun j hj=>I.ul j ((mem' j).1 hj).2,hiff,hclosed,fun t ht h=>?_,fun t ht=>I.sub t ((hmR t).1 (.tail _ ht)),fun t ht=>(mem' t).2 ⟨fun h=>hnr (by rw[← h]; exact ht),I.suf t ((hmR t).1 (.tail _ ht))⟩,fun s hs=>?_,fun j hj s hds=>?_,fun j hj hjU o' ho'=>?_⟩ (hT.next hrest) (fun h=>by rw[h]; exact .head _) hst' (hr.put o.dst (hdl i o ho) v) hsy (fun t ht=>by rw[List.mem_singleton.1 ht]; exact hV')
    ·have h2:=(mem' t).1 h
     rcases List.mem_cons.1 ((hmR t).2 (I.split t ht h2.2)) with h3|h3
     ·exact absurd h3 h2.1
     ·exact h3
    ·cases hd:o.dst with
     | none=>exact I.agree s (fun j hj hjU=>hs j hj ((mem' j).2 ⟨fun h=>hih (by rw[← h]; exact hj),hjU⟩))
     | some k =>
      simp only[puto,upd]
      by_cases hsk:s=k
      ·simp[hsk]
      ·rw[if_neg hsk,if_neg hsk]
       exact I.agree s (fun j hj hjU=>hs j hj ((mem' j).2 ⟨fun h=>hih (by rw[← h]; exact hj),hjU⟩))
    ·rw[← I.qv j hj s hds]
     cases hd:o.dst with
     | none=>rfl
     | some k =>
      simp only[puto,upd]
      rw[if_neg (fun h=>?_)]
      subst h
      have:=F.dst_inj hds (by rw[hdst i o ho]; exact hd)
      exact hih (by rw[this]; exact hj)
    ·have hjU2:=((mem' j).1 hjU).2
     have hq:=I.qy j hj hjU2 o' ho'
     obtain ⟨_,⟨rl',hrl'⟩,_⟩:=F.op j o' ho'
     intro w2 hw2
     rw[← hq w2 hw2]
     refine congrArg (fun x=>Sem.run c.P x w2) (exec_rd hrl' (fun t ht=>?_))
     cases hd:o.dst with
     | none=>rfl
     | some k =>
      simp only[puto,upd]
      rw[if_neg (fun h=>?_)]
      subst h
      have hjl:=(List.getElem?_eq_some_iff.1 ho').1
      rcases F.reads hjl (show dstN ops.toList i=some t by rw[hdst i o ho]; exact hd) (by simp[rdsN,ho',hrl']; exact ht) with ⟨h1,h2⟩|⟨_,h2,_⟩|⟨_,_,h3⟩
      ·exact h2 hj
      ·exact hih h2
      ·exact hdep j (h3 hj) hjU2
   ·
    have h1:=hr.undef t ht
    rw[← h1]
    refine (I.agree t (fun j hj hjU hdj=>?_)).symm
    obtain ⟨oj,hoj⟩:∃ oj,ops.toList[j]?=some oj:=⟨_,qH (dst_lt hdj)⟩
    rw[hdst j oj hoj] at hdj
    exact absurd (hdl j oj hoj t hdj) (Nat.not_lt.2 ht)
/-! ### The rule in the walk's forms -/
def Stab (wb:World) (L Lq:Own):Prop:=∀ w,Sy wb L w→Sy wb Lq w
def VQX (c:Cfg) {all:List Oper} (_:Tag all) (is:List Nat) (wb:World) (L:Own) {K:Env→Prop} (_:Tag K) (e:Env):Prop:=VQ c all wb L K (is.filterMap (all[·]?)) e
def VQN (c:Cfg) {all:List Oper} (_:Tag all) {rem:List Oper} (_:Tag rem) (j:Nat) (is:List Nat) (wb:World) (L:Own) {K:Env→Prop} (_:Tag K) (e:Env):Prop :=
 match rem[j]? with|some o=>VQ c all wb L K (o::is.filterMap (all[·]?)) e|none=>VQ c all wb L K (is.filterMap (all[·]?)) e
def VFX (c:Cfg) {all:List Oper} (_:Tag all) (is:List Nat) (Lq:Own) {Q:Post} (_:Tag Q) (wb:World) (e:Env) (ds:List Deferred) (L:Own):Prop:=VF c wb Lq Q (is.filterMap (all[·]?)) e ds L
def VFN (c:Cfg) {all:List Oper} (_:Tag all) {rem:List Oper} (_:Tag rem) (j:Nat) (is:List Nat) (Lq:Own) {Q:Post} (_:Tag Q) (wb:World) (e:Env) (ds:List Deferred) (L:Own):Prop :=
 match rem[j]? with|some o=>VF c wb Lq Q (o::is.filterMap (all[·]?)) e ds L|none=>VF c wb Lq Q (is.filterMap (all[·]?)) e ds L
section forms
variable {all:List Oper} {K:Env→Prop} {Q:Post} {d:Option Nat} {ty:TypeId} {pos:String} {af:Array Edge} (Lq:Own) (e:Env) (is:List Nat) (j:Nat) (l:List Oper)
@[push_cast] theorem VQX_nil:VQX c (tag all) [] wb L (tag K) e=K e:=(rfl)
@[push_cast] theorem VQX_cons (i:Nat):VQX c (tag all) (i::is) wb L (tag K) e=VQN c (tag all) (tag all) i is wb L (tag K) e:=by
 unfold VQX VQN
 rw[List.filterMap_cons]
 cases all[i]?<;>rfl
@[push_cast] theorem VQN_succ (o:Oper):VQN c (tag all) (tag (o::l)) (j+1) is wb L (tag K) e=VQN c (tag all) (tag l) j is wb L (tag K) e:=by
 unfold VQN
 rw[List.getElem?_cons_succ]
@[push_cast] theorem VQN_zero (op:Op):VQN c (tag all) (tag (⟨d,op,ty,pos,af,none⟩::l)) 0 is wb L (tag K) e=QT c op (tag ⟨d,op,ty,pos,af,none⟩) wb e L (tag fun v=>VQX c (tag all) is wb L (tag K) (puto e d v)):=(rfl)
@[push_cast] theorem VFX_nil:VFX c (tag all) [] Lq (tag Q) wb e ds L=Q .normal wb e ds L:=(rfl)
@[push_cast] theorem VFX_cons (i:Nat):VFX c (tag all) (i::is) Lq (tag Q) wb e ds L=VFN c (tag all) (tag all) i is Lq (tag Q) wb e ds L:=by
 unfold VFX VFN
 rw[List.filterMap_cons]
 cases all[i]?<;>rfl
@[push_cast] theorem VFN_succ (o:Oper):VFN c (tag all) (tag (o::l)) (j+1) is Lq (tag Q) wb e ds L=VFN c (tag all) (tag l) j is Lq (tag Q) wb e ds L:=by
 unfold VFN
 rw[List.getElem?_cons_succ]
@[push_cast] theorem VFN_zero (op:Op):VFN c (tag all) (tag (⟨d,op,ty,pos,af,none⟩::l)) 0 is Lq (tag Q) wb e ds L =
 OT c op (tag ⟨d,op,ty,pos,af,none⟩) wb e ds L (tag fun v wb' ds' L'=>wb'=wb∧Stab wb L' Lq∧VFX c (tag all) is Lq (tag Q) wb (puto e d v) ds' L') (tag fun _ _ _=>False):=(rfl)
end forms
theorem freeTs {e:Env} {id:Nat} {ops:List Oper} {Q:Post} (hs ts:List Nat) (T:List (List Nat)) (Lq:Own) (hok:okOps c.n ops.toArray=true) (hm:c.P.follows .mixedOrders=true) (hB:freeB ops hs ts=true) (hT:ordB ops ts T=true) (hT0:ts=[]→[]∈T) (hq:Stab wb L Lq)
 (h:VQX c (tag ops) hs wb Lq (tag fun E=>∀ t∈T,VFX c (tag ops) t Lq (tag Q) wb E ds L) e):SemT c (tag (.region id ops.toArray true)) (tag Q) wb e ds L:=by
 have F:=freeOK_of hB
 intro a w hr hw
 refine wpIn_region_any hm ?_
 obtain ⟨val,hV,hqy⟩:=quiet_phase (c:=c) hs e F.hn (fun i hi=>by
  obtain ⟨hl,hqo,_⟩:=F.quiet i hi
  obtain ⟨o,ho⟩:∃ o,ops[i]?=some o:=⟨_,qH hl⟩
  exact ⟨o,ho,(F.op i o ho).1,hqo o ho⟩) h
 have hl:ops.toArray.toList=ops:=by simp
 have hlen:ops.toArray.size=ops.length:=by simp
 rw[hlen]
 have hinj:∀ i s,dstN ops i=some s→∀ j,dstN ops j=some s→j=i:=fun i s hi j hj=>F.dst_inj hi hj
 refine free_main (Lq:=Lq) (val:=val) (hs:=hs) (ts:=ts) (by rw[hl]; exact F) hok ops.length (List.range ops.length) _ a _ e (foldQ ops val hs e) ds L ts T (by simp) ?_ (by rw[hl]; exact ordOK_of hT) hT0 hq hr hw.drew (by rw[hl]; exact hV)
 rw[hl]
 refine ⟨by simp,List.nodup_range,fun i hi=>List.mem_range.1 hi,fun i hi=>by simp[hi],fun j hj hjU=>absurd (List.mem_range.2 hj) hjU,fun t ht _=>ht,fun t ht=>ht,fun t ht=>List.mem_range.2 (F.tail t ht),fun s hs'=>?_,fun i hi s hds=>foldQ_mem hds (hinj i s hds) hs e hi,fun i hi _ o ho=>?_⟩
 ·refine (foldQ_other hs e (fun i hi=>hs' i hi (List.mem_range.2 (F.quiet i hi).1))).symm
 ·obtain ⟨k,hk⟩:=List.mem_iff_getElem?.1 hi
  have hq1:=hqy k i hk o ho
  obtain ⟨_,⟨rl,hrl⟩,hlt⟩:=F.op i o ho
  intro w2 hw2
  rw[← hq1 w2 hw2]
  refine congrArg (fun x=>Sem.run c.P x w2) (exec_rd hrl (fun t ht=>?_))
  have hsplit:foldQ ops val hs e=foldQ ops val (hs.drop k) (foldQ ops val (hs.take k) e):=by
   unfold foldQ
   rw[← List.foldl_append,List.take_append_drop]
  rw[hsplit]
  refine foldQ_other _ _ (fun j hj hdj=>?_)
  obtain ⟨m,hm'⟩:=List.mem_iff_getElem?.1 hj
  rw[List.getElem?_drop] at hm'
  have hjh:j∈hs:=List.mem_of_getElem? hm'
  rcases F.reads (F.quiet i hi).1 hdj (by simp[rdsN,ho,hrl]; exact ht) with ⟨_,h2⟩|⟨hne,_,h3⟩|⟨_,h2,_⟩
  ·exact h2 hi
  ·have h4:=hlt j h3
   have h5:i≤j:=by
    rcases Nat.eq_zero_or_pos m with rfl|hm0
    ·rw[Nat.add_zero,hk] at hm'
     cases hm'
     exact Nat.le_refl _
    ·have:=List.pairwise_iff_getElem.1 F.asc k (k+m) (List.getElem?_eq_some_iff.1 hk).1 (List.getElem?_eq_some_iff.1 hm').1 (by omega)
     rw[(List.getElem?_eq_some_iff.1 hk).2,(List.getElem?_eq_some_iff.1 hm').2] at this
     omega
   omega
  ·exact h2 hjh
def free1B (ops:List Oper) (hs ts:List Nat):Bool:=freeB ops hs ts && ordB ops ts [ts]
theorem freeT {e:Env} {id:Nat} {ops:List Oper} {Q:Post} (hs ts:List Nat) (Lq:Own) (hok:okOps c.n ops.toArray=true) (hm:c.P.follows .mixedOrders=true) (hB:free1B ops hs ts=true) (hq:Stab wb L Lq)
 (h:VQX c (tag ops) hs wb Lq (tag fun E=>VFX c (tag ops) ts Lq (tag Q) wb E ds L) e):SemT c (tag (.region id ops.toArray true)) (tag Q) wb e ds L:=by
 simp only[free1B,Bool.and_eq_true] at hB
 refine freeTs hs ts [ts] Lq hok hm hB.1 hB.2 (fun h=>by rw[h]; exact .head _) hq ?_
 have:(fun E=>VFX c (tag ops) ts Lq (tag Q) wb E ds L)=fun E=>∀ t∈[ts],VFX c (tag ops) t Lq (tag Q) wb E ds L:=funext fun E=>propext ⟨fun h t ht=>by rw[List.mem_singleton.1 ht]; exact h,fun h=>h ts (.head _)⟩
 rw[← this]
 exact h
end Go.K
