/- YtilejcofleeeiaaGreatDoor: the walk calculus, part Kb: proved rules by which the walks of this seat are made. -/
import Derived.Test.YtilejcofleeeiaaGreatDoorKa
import Derived.OrdersIn
import Derived.StillTail
import Derived.Deep.Quiet
namespace Go.K
open Go
open List renaming length_cons → qN
set_option linter.unusedVariables false
set_option linter.unusedSimpArgs false
section
variable {P:Program} {ops:Array Oper} {md:Region.Mode} {C:World→Prop} {r:Option Nat}
theorem wpIn_of_quiet {o:Oper} {a:Act} {K:Act→Prop} {K':Act→World→Prop} {Q':Exit→Act→World→Prop} {w:World} (hd:∀ cl,o.op≠.defer cl) (hw:C w)
 (h:∀ a w',C w'→K a→K' a w') (hh:o.quiet P a C K):o.wpIn { Fence.wide with round:=r } 0 P a w K' Q':=by
 obtain ⟨v,h1,h2⟩:=hh
 have h3:=h1 w hw
 unfold Oper.quietAt at h3
 unfold Oper.wpIn
 refine ⟨fun _ _=>trivial,?_⟩
 rw[Oper.semAt_eq _ _ _ hd]
 generalize (execOp a.eval o).run P w=rr at *
 cases rr with
 | ok n w' =>
  cases n<;>simp only[Oper.quietUpon] at h3<;>simp only[Oper.uponIn]
  case value u =>
   obtain ⟨e1,e2⟩:=h3
   rw[e1,e2]
   exact h _ _ hw h2
  case skip =>
   obtain ⟨e1,e2⟩:=h3
   rw[e1,← e2]
   exact h _ _ hw h2
  case enter f args =>
   obtain ⟨e1,hc⟩:=h3
   rw[e1]
   exact ⟨fun h=>by simp[Fence.wide] at h,callsIn_of (hc.mono fun e w'' ⟨he,hw''⟩=>by subst he; exact h _ _ hw'' h2)⟩
 | halt x w'=>simp only[Oper.quietUpon] at h3
theorem wpOpIn_of_qOp {i:Nat} {a:Act} {K:Act→Prop} {K':Act→World→Prop} {Q':Exit→Act→World→Prop} {w:World} (hd:∀ o,ops[i]?=some o→∀ cl,o.op≠.defer cl) (hC:C w)
 (h:∀ a w',C w'→K a→K' a w') (hh:qOp P ops C i K a):wpOpIn { Fence.wide with round:=r } 0 P ops Q' i K' a w:=by
 unfold qOp at hh
 unfold wpOpIn
 split
 ·rename_i ho; simp only[ho] at hh; exact h _ _ hC hh
 ·rename_i o ho
  simp only[ho] at hh
  split
  ·rename_i hw; simp only[hw,if_true] at hh; exact wpIn_of_quiet (hd o ho) hC h hh
  ·rename_i hw; simp only[hw] at hh; exact ⟨fun _ _=>trivial,h _ _ hC hh⟩
def noDefer (ops:Array Oper):Bool:=ops.all fun o=>match o.op with | .defer _=>false|_=>true
theorem noDefer_spec (h:noDefer ops=true) (i:Nat) (o:Oper) (ho:ops[i]?=some o) (cl:Call):o.op≠.defer cl:=by
 intro e
 have hm:o∈ops:=Array.mem_of_getElem? ho
 have:=Array.all_eq_true'.1 h o hm
 rw[e] at this
 cases this
theorem wpAnyIn_of_quiet (hnd:noDefer ops=true) {Q:Act→Prop} {Q':Exit→Act→World→Prop} (hQ:∀ a w,C w→Q a→Q' .normal a w):∀ (fuel:Nat) (listed:Array Bool) (a:Act) (w:World),C w →
 wpAnyQ P md ops C Q fuel listed a→wpAnyIn { Fence.wide with round:=r } 0 P md ops Q' fuel listed a w
 | 0,_,_,_,hw,h=>⟨h.1,hQ _ _ hw h.2⟩
 | fuel+1,_,_,_,hw,h=>⟨fun h0=>hQ _ _ hw (h.1 h0),fun i hi=>wpOpIn_of_qOp (noDefer_spec hnd i) hw (fun a' w' hw'=>wpAnyIn_of_quiet hnd hQ fuel _ a' w' hw') (h.2 i hi)⟩
theorem wpIn_region_quiet {id:Nat} {Q:Exit→Act→World→Prop} {a:Act} {w:World} (hnd:noDefer ops=true) (hm:P.follows .mixedOrders=true) (hB:Region.lexB .any ops=true) (hC:C { w with drawn:=w.drawn+1 })
 (h:wpQuiet P ops C (fun a'=>∀ w',C w'→Q .normal a' w') ops.toList a):(Code.region id ops true).wpIn { Fence.wide with round:=r } 0 P Q a w:=by
 simp only[Region.lexB,Bool.and_eq_true] at hB
 refine wpIn_region_any hm (wpAnyIn_of_quiet hnd (Q:=fun a'=>∀ w',C w'→Q .normal a' w') (fun _ w' hw' h=>h w' hw') _ _ _ _ hC ?_)
 have:=wpAnyQ_lex (C:=C) (md:=.any) hB.1 ops.toList 0 (Array.replicate ops.size false) a (by simp) (by simpa using hB.2) h
 simpa using this
/-! ### A quiet head, then a tail in its one order -/
def wpAnyLQ (P:Program) (md:Region.Mode) (ops:Array Oper) (C:World→Prop) (n:Nat) (L:Array Bool→Act→Prop):Nat→Array Bool→Act→Prop
 | 0,listed,a=>L listed a
 | f+1,listed,a =>
  Region.ready md ops listed≠[]∧∀ i∈Region.ready md ops listed,i < n∧qOp P ops C i (wpAnyLQ P md ops C n L f (listed.setIfInBounds i true)) a
theorem wpAnyIn_of_headQ {n g:Nat} {L:Array Bool→Act→Prop} {Q':Exit→Act→World→Prop} (hnd:noDefer ops=true)
 (hL:∀ listed a w,C w→L listed a→wpAnyIn { Fence.wide with round:=r } 0 P md ops Q' g listed a w) :
 ∀ (f:Nat) (listed:Array Bool) (a:Act) (w:World),C w→wpAnyLQ P md ops C n L f listed a→wpAnyIn { Fence.wide with round:=r } 0 P md ops Q' (f+g) listed a w
 | 0,listed,a,w,hw,h=>by rw[Nat.zero_add]; exact hL _ _ _ hw h
 | f+1,listed,a,w,hw,h=>by
  rw[show f+1+g=(f+g)+1 by omega]
  exact ⟨fun h0=>absurd h0 h.1,fun i hi=>wpOpIn_of_qOp (noDefer_spec hnd i) hw (fun a' w' hw' h'=>wpAnyIn_of_headQ hnd hL f _ a' w' hw' h') (h.2 i hi).2⟩
theorem wpAnyLQ_first {n i:Nat} {oi:Oper} {v:Value} {L:Array Bool→Act→Prop} (hi:ops[i]?=some oi) (hsel:∀ (j:Nat) (o:Oper) cs b,ops[j]?=some o→o.op≠.select cs b)
 (hs:Region.sinkB md ops n=true) (hc:Region.chainB md ops n=true) (hn:n < ops.size) (hin:i < n)
 (hdone:∀ listed a,L listed a→∀ j∈Region.ready md ops listed,n≤j) :
 ∀ (f:Nat) (listed:Array Bool) (a:Act),HeadInv md ops n listed →
  (∀ j oj,ops[j]?=some oj→j≠i→listed.getD j true=false→(∀ e∈oj.after,Region.binds md e=true→e.on≠i)→oi.apart ops oj=true) →
  i∈Region.ready md ops listed→YieldsIn P ops C oi v a →
  wpAnyLQ P md ops C n L f (listed.setIfInBounds i true) (a.put oi.dst v)→wpAnyLQ P md ops C n L (f+1) listed a:=by
 intro f
 induction f with
 | zero =>
  intro listed a inv _ hr hy H
  have hun:=(mem_ready.1 hr).1
  refine ⟨fun h=>(by rw[h] at hr; cases hr),fun j hj=>?_⟩
  have hjn:j < n:=by
   rcases Nat.lt_or_ge j n with h|h
   ·exact h
   ·exact absurd hj (tail_waits hs hc hn inv _ i rfl hin hun j h)
  refine ⟨hjn,?_⟩
  by_cases hji:j=i
  ·subst hji; exact hy.qOp hi H
  ·have:=hdone _ _ H j (ready_mono hj hji)
   omega
 | succ f ih =>
  intro listed a inv hfree hr hy H
  have hun:=(mem_ready.1 hr).1
  refine ⟨fun h=>(by rw[h] at hr; cases hr),fun j hj=>?_⟩
  have hjn:j < n:=by
   rcases Nat.lt_or_ge j n with h|h
   ·exact h
   ·exact absurd hj (tail_waits hs hc hn inv _ i rfl hin hun j h)
  refine ⟨hjn,?_⟩
  by_cases hji:j=i
  ·subst hji; exact hy.qOp hi H
  ·have h1:=(H.2 j (ready_mono hj hji)).2
   obtain ⟨hjun,oj,hoj,hall⟩:=mem_ready.1 hj
   have hnot:∀ e∈oj.after,Region.binds md e=true→e.on≠i:=fun e he hb heq=>by
    have h1:=hall e he hb
    rw[heq,getD_both hun] at h1
    cases h1
   have h2:=qOp_put hoj (hfree j oj hoj hji hjun hnot) (fun cs b=>hsel i oi cs b hi) (fun cs b=>hsel j oj cs b hoj) hy h1
   have hfree':∀ k ok,ops[k]?=some ok→k≠i→(listed.setIfInBounds j true).getD k true=false →
    (∀ e∈ok.after,Region.binds md e=true→e.on≠i)→oi.apart ops ok=true:=fun k ok hk hki hun hno=>by
    refine hfree k ok hk hki ?_ hno
    by_cases hjk:j=k
    ·subst hjk; exact hjun
    ·rw[getD_set_ne true hjk] at hun; exact hun
   refine qOp_mono (fun a' h3=>ih (listed.setIfInBounds j true) a' (inv.set hj hjn) hfree' (ready_mono hr (Ne.symm hji)) h3.1 ?_) h2
   rw[Array.setIfInBounds_comm _ _ hji]
   exact h3.2
theorem wpAnyLQ_lex {n g:Nat} {Lq:Act→Prop} (hsel:Region.noSelect ops=true) (hs:Region.sinkB md ops n=true) (hc:Region.chainB md ops n=true) (hn:n < ops.size) :
 ∀ (l:List Oper) (k:Nat) (listed:Array Bool) (a:Act),(∀ j,j < l.length→l[j]?=ops[k+j]?)→k+l.length=n→HeadInv md ops n listed →
 Region.lexHead md ops g l.length k listed=true→wpQuiet P ops C Lq l a →
 wpAnyLQ P md ops C n (fun listed' a'=>Region.seqB md ops g n listed'=true∧Lq a') l.length listed a
 | [],k,listed,a,_,hk,_,hB,h=>by
  have:k=n:=by simpa using hk
  subst this
  exact ⟨by simpa [Region.lexHead] using hB,h⟩
 | o::l,k,listed,a,hl,hk,inv,hB,h=>by
  have h0:ops[k]?=some o:=by simpa using (hl 0 (by simp)).symm
  simp only[qN,Region.lexHead,Bool.and_eq_true] at hB
  obtain ⟨⟨hr,hf⟩,hB'⟩:=hB
  have hkn:k < n:=by simp only[qN] at hk; omega
  have hr':k∈Region.ready md ops listed:=by simpa using hr
  have hst:qOp P ops C k (wpQuiet P ops C Lq l) a:=by unfold qOp; simp only[h0]; exact h
  obtain ⟨v,hy,hK⟩:=yieldsIn_of_qOp h0 hst
  exact wpAnyLQ_first h0 (Region.noSelect_spec hsel) hs hc hn hkn (fun listed' a' hL=>seqB_ready hL.1) l.length listed a inv (Region.free_spec h0 hf) hr' hy
   (wpAnyLQ_lex hsel hs hc hn l (k+1) _ _ (fun j hj=>by have:=hl (j+1) (by simp; omega); simpa [Nat.add_assoc,Nat.add_comm 1 j] using this) (by simp only[qN] at hk; omega) (inv.set hr' hkn) hB' hK)
theorem wpAnyIn_of_seq {F:Fence} {Q':Exit→Act→World→Prop}:∀ (l:List Oper) (k:Nat) (listed:Array Bool) (a:Act) (w:World),(∀ j,l[j]?=ops[k+j]?) →
 Region.seqB md ops l.length k listed=true→wpListIn F 0 P ops Q' l a w→wpAnyIn F 0 P md ops Q' l.length listed a w
 | [],_,_,_,_,_,hB,h=>⟨by simpa [Region.seqB] using hB,h⟩
 | o::l,k,listed,a,w,hl,hB,h=>by
  have h0:ops[k]?=some o:=by simpa using (hl 0).symm
  simp only[qN,Region.seqB,Bool.and_eq_true,decide_eq_true_eq] at hB
  refine ⟨fun h1=>(by rw[hB.1] at h1; cases h1),fun i hi=>?_⟩
  rw[hB.1] at hi
  have hik:i=k:=by simpa using hi
  subst hik
  have hw:wpOpIn F 0 P ops Q' i (wpListIn F 0 P ops Q' l) a w:=by unfold wpOpIn; simp only[h0]; exact h
  exact wpOpIn_mono (fun a' w' h'=>wpAnyIn_of_seq l (i+1) _ a' w' (fun j=>by have:=hl (j+1); simpa [Nat.add_assoc,Nat.add_comm 1 j] using this) hB.2 h') hw
theorem wpIn_region_quiet_tail {id:Nat} {Q:Exit→Act→World→Prop} {a:Act} {w:World} (n:Nat) (hnd:noDefer ops=true) (hm:P.follows .mixedOrders=true) (hB:Region.lexTailB .any ops n=true) (hC:C { w with drawn:=w.drawn+1 })
 (h:wpQuiet P ops C (fun a'=>∀ w',C w'→wpListIn { Fence.wide with round:=r } 0 P ops Q (ops.toList.drop n) a' w') (ops.toList.take n) a) :
 (Code.region id ops true).wpIn { Fence.wide with round:=r } 0 P Q a w:=by
 simp only[Region.lexTailB,Bool.and_eq_true,decide_eq_true_eq] at hB
 obtain ⟨⟨⟨⟨hsel,hn⟩,hs⟩,hc⟩,hlex⟩:=hB
 have htl:(ops.toList.take n).length=n:=by simp; omega
 have hdl:(ops.toList.drop n).length=ops.size - n:=by simp
 have inv0:HeadInv .any ops n (Array.replicate ops.size false) :=
  ⟨by simp,fun j oj _ hl=>(by rw[getD_replicate_false] at hl; cases hl),fun t _ ht=>getD_in (by simpa using ht) (getD_replicate_false _ _)⟩
 have H:=wpAnyLQ_lex (md:=.any) (g:=ops.size - n) hsel hs hc hn (ops.toList.take n) 0 _ a (fun j hj=>by
  have hj':j < n:=by rw[htl] at hj; exact hj
  simp[hj']) (by simpa using htl) inv0 (by rw[htl]; exact hlex) h
 refine wpIn_region_any hm ?_
 have:=wpAnyIn_of_headQ (r:=r) (Q':=Q) (g:=ops.size - n) hnd (fun listed a' w' hw' hL=>by
  have:=wpAnyIn_of_seq (md:=.any) (Q':=Q) (F:={ Fence.wide with round:=r }) (ops.toList.drop n) n listed a' w' (fun j=>by simp[List.getElem?_drop]) (by rw[hdl]; exact hL.1) (hL.2 w' hw')
  rwa [hdl] at this) _ _ _ _ hC H
 rw[htl,show n+(ops.size - n)=ops.size by omega] at this
 exact this
end
/-! ### The quiet walk over environments -/
def QCallX (P:Program) (f:FuncId) (args:Array Value) (wb:World) (L:Own) {K:Value→Prop} (_:Tag K):Prop :=
 ∃ v,(∀ w,Sy wb L w→Calls P f args w fun e w'=>e=.returned v∧Sy wb L w')∧K v
def QCallV (c:Cfg) (f:Value) (args:Array Value) (wb:World) (L:Own) {K:Value→Prop} (_:Tag K):Prop :=
 match f with
 | .func (.func g) first cap=>entersB c.P g=true∧QCallX c.P g (first++args++cap) wb L (tag K)
 | _=>False
def qNode (c:Cfg) (o:Oper) (wb:World) (e:Env) (L:Own) (K:Value→Prop):Prop :=
 match o.op with
 | .move x | .assign x=>PutX (ev e x) (tag K)
 | .pick x a b=>PickX (ev e x) (ev e a) (ev e b) (tag K)
 | .build t parts=>PureX c.P (Instr.build t (parts.map (evp e))) (tag K)
 | .load t a=>LoadX c.P t (ev e a) wb L (tag K)
 | .nilCheck x=>NilX (ev e x) (tag K)
 | .binOp op t x y _=>PureX c.P (do eqGuard op t x y (ev e x) (ev e y); binOp op t (ev e x) (ev e y)) (tag K)
 | .unOp op _ x=>PureX c.P (Op.unary op (ev e x)) (tag K)
 | .convert s d x=>PureX c.P (convert s d (ev e x)) (tag K)
 | .makeInterface t x=>PureX c.P (Instr.makeInterface t (ev e x)) (tag K)
 | .makeFunc fn first captured=>PureX c.P (Instr.makeFunc fn (first.map (ev e)) (captured.map (ev e))) (tag K)
 | .slice t x lo hi mx=>PureX c.P (Instr.sliceAt t (ev e x) (lo.map (ev e)) (hi.map (ev e)) (mx.map (ev e))) (tag K)
 | .fieldAddr s x f=>PureX c.P (Instr.fieldAt s (ev e x) f) (tag K)
 | .field t x f=>PureX c.P (Instr.field t (ev e x) f) (tag K)
 | .indexAddr t x i=>PureX c.P (Instr.indexAt t (ev e x) (ev e i)) (tag K)
 | .index t x i=>PureX c.P (Instr.index t (ev e x) (ev e i)) (tag K)
 | .typeAssert x t u ok=>PureX c.P (Instr.typeAssert (ev e x) t u ok) (tag K)
 | .extract t i=>PureX c.P (Instr.extract (ev e t) i) (tag K)
 | .call { callee:=.value f,args,.. }=>QCallV c (ev e f) (args.map (ev e)) wb L (tag K)
 | .call { callee:=.builtin .len,args,argTypes }=>PureX c.P (Builtin.len_ argTypes o.type (args.map (ev e))) (tag K)
 | .call { callee:=.builtin .min,args,argTypes }=>PureX c.P (Builtin.min_ argTypes o.type (args.map (ev e))) (tag K)
 | .call { callee:=.builtin .max,args,argTypes }=>PureX c.P (Builtin.max_ argTypes o.type (args.map (ev e))) (tag K)
 | .call { callee:=.builtin .cap,args,argTypes }=>PureX c.P (Builtin.cap_ argTypes o.type (args.map (ev e))) (tag K)
 | _=>False
def VQ (c:Cfg) (all:List Oper) (wb:World) (L:Own) (K:Env→Prop):List Oper→Env→Prop
 | [],e=>K e
 | o::rest,e=>guarded all e o.guard (fun e=>qNode c o wb e L fun v=>VQ c all wb L K rest (puto e o.dst v)) (fun e=>VQ c all wb L K rest (puto e o.dst undef))
variable {c:Cfg} {o:Oper} {wb:World} {e:Env} {ds:List Deferred} {L:Own}
theorem quiet_val {a:Act} {K:Value→Prop} {K':Act→Prop} {s:Sem Value} (hs:execOp a.eval o=(do pure (.value (← s)))) (h:∃ v,(∀ w,Sy wb L w→s.run c.P w=.ok v w)∧K v)
 (hk:∀ v,K v→K' (a.put o.dst v)):o.quiet c.P a (Sy wb L) K':=by
 obtain ⟨v,h1,h2⟩:=h
 refine ⟨v,fun w hw=>?_,hk v h2⟩
 unfold Oper.quietAt
 rw[hs]
 have:(do pure (.value (← s)):Sem Next).run c.P w=.ok (.value v) w:=by simp[h1 w hw]
 rw[this]
 exact ⟨rfl,rfl⟩
theorem quiet_pure {s:Sem Value} {K:Value→Prop} (h:PureX c.P s (tag K)):∃ v,(∀ w,Sy wb L w→s.run c.P w=.ok v w)∧K v :=
 let ⟨v,h1,h2⟩:=h; ⟨v,fun w _=>h1 w,h2⟩
theorem quiet_call {f:Operand} {args:Array Operand} {ats:Array TypeId} {a:Act} {K:Value→Prop} {K':Act→Prop} (ho:o.op=.call { callee:=.value f,args:=args,argTypes:=ats })
 (hr:a.eval=ev e) (h:QCallV c (ev e f) (args.map (ev e)) wb L (tag K)) (hk:∀ v,K v→K' (a.put o.dst v)):o.quiet c.P a (Sy wb L) K':=by
 unfold QCallV at h
 split at h
 ·rename_i g first cap hf
  obtain ⟨hcf,v,hc,hv⟩:=h
  refine ⟨v,fun w hw=>?_,hk v hv⟩
  unfold Oper.quietAt
  have hrun:(execOp a.eval o).run c.P w=.ok (.enter g (first++args.map (ev e)++cap)) w:=by
   rw[hr]
   simp[execOp,ho,resolve,hf,Deferred.ofValue,invoke,enters_run hcf]
  rw[hrun]
  exact ⟨rfl,hc w hw⟩
 ·exact h.elim
theorem quiet_of_node {a:Act} {K:Value→Prop} {K':Act→Prop} (hr:a.eval=ev e) (h:qNode c o wb e L K) (hk:∀ v,K v→K' (a.put o.dst v)):o.quiet c.P a (Sy wb L) K':=by
 unfold qNode at h
 split at h
 all_goals first
  | (rename_i ho; exact quiet_call ho hr h hk)
  | (rename_i x ho; refine quiet_val (c:=c) (s:=pure (ev e x)) ?_ ⟨_,fun _ _=>rfl,h⟩ hk; rw[hr]; simp only[execOp,ho]; rfl)
  | (rename_i ho; obtain ⟨t,ht,h⟩:=h; rename_i x y z; refine quiet_val (c:=c) (s:=pure (if t then ev e y else ev e z)) ?_ ⟨_,fun _ _=>rfl,h⟩ hk; rw[hr]; simp only[execOp,ho,ht]; rfl)
  | (rename_i x ho; obtain ⟨t,ht,h⟩:=h; refine quiet_val (c:=c) (s:=pure (ev e x)) ?_ ⟨_,fun _ _=>rfl,h⟩ hk; rw[hr]; simp only[execOp,ho,ht]; rfl)
  | (rename_i ho; refine quiet_val (c:=c) ?_ (quiet_pure h) hk; rw[hr]; simp only[execOp,ho]; first|done|rfl)
  | (rename_i ho; refine quiet_val (c:=c) ?_ h hk; rw[hr]; simp only[execOp,ho]; first|done|rfl)
  | exact h.elim
theorem VQ_sound {ops:Array Oper} (hok:okOps c.n ops=true) {K:Env→Prop} {Q:Act→Prop} (hQ:∀ a e,Rep c.n a e ds→K e→Q a):∀ (rest:List Oper),(∀ o∈rest,o∈ops.toList)→∀ e a,
 VQ c ops.toList wb L K rest e→Rep c.n a e ds→wpQuiet c.P ops (Sy wb L) Q rest a:=by
 intro rest
 induction rest with
 | nil=>intro _ e a h hr; exact hQ a e hr h
 | cons o rest ih =>
  intro hin e a h hr
  have ih':=ih (fun o ho=>hin o (List.mem_cons_of_mem _ ho))
  have hd:∀ k,o.dst=some k→k < c.n:=fun k hk=>by
   have h1:=Array.all_eq_true'.1 hok o (Array.mem_toList_iff.1 (hin o (List.mem_cons_self ..)))
   rw[hk] at h1
   simpa using h1
  have hput:∀ v,Rep c.n (a.put o.dst v) (puto e o.dst v) ds:=fun v=>by
   have:=hr.put (ds':=ds) o.dst hd v
   rwa [← hr.defers] at this ⊢
  unfold VQ at h
  unfold wpQuiet
  cases hg:o.guard with
  | none =>
   rw[hg] at h
   rw[if_pos (by simp[Region.wanted,hg])]
   exact quiet_of_node hr.eval h fun v hv=>ih' _ _ hv (hput v)
  | some g =>
   obtain ⟨j,want⟩:=g
   rw[hg] at h
   rcases guard_spec (ops:=ops) hr j want h with ⟨h1,h2⟩|⟨h1,h2⟩
   ·rw[if_pos (by simp only[Region.wanted,hg]; exact h1)]
    exact quiet_of_node hr.eval h2 fun v hv=>ih' _ _ hv (hput v)
   ·rw[if_neg (by simp only[Region.wanted,hg,h1]; exact Bool.false_ne_true)]
    exact ih' _ _ h2 (hput _)
theorem drawQ {id:Nat} {ops:Array Oper} {Q:Post} (hnd:noDefer ops=true) (hok:okOps c.n ops=true) (hm:c.P.follows .mixedOrders=true) (hB:Region.lexB .any ops=true)
 (h:VQ c ops.toList wb L (fun e'=>Q .normal wb e' ds L) ops.toList e):SemX c (.region id ops true) Q wb e ds L:=by
 intro a w hr hw
 refine wpIn_region_quiet (C:=Sy wb L) hnd hm hB hw.drew ?_
 exact VQ_sound hok (ds:=ds) (fun a' e' hr' hk w' hw'=>⟨wb,e',ds,L,hr',hw',hk⟩) ops.toList (fun _ h=>h) e a h hr
theorem drawT {id:Nat} {ops:Array Oper} {Q:Post} (n:Nat) (hnd:noDefer ops=true) (hok:okOps c.n ops=true) (hm:c.P.follows .mixedOrders=true) (hB:Region.lexTailB .any ops n=true)
 (h:VQ c ops.toList wb L (fun e'=>VL c ops.toList Q (ops.toList.drop n) wb e' ds L) (ops.toList.take n) e):SemX c (.region id ops true) Q wb e ds L:=by
 intro a w hr hw
 refine wpIn_region_quiet_tail (C:=Sy wb L) n hnd hm hB hw.drew ?_
 refine VQ_sound hok (ds:=ds) (fun a' e' hr' hk w' hw'=>?_) (ops.toList.take n) (fun _ h=>List.mem_of_mem_take h) e a h hr
 exact VL_sound hok _ (fun _ h=>List.mem_of_mem_drop h) wb e' ds L a' w' hk hr' hw'
end Go.K
