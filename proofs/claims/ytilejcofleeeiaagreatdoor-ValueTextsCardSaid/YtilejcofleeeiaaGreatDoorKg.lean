/- YtilejcofleeeiaaGreatDoor: the walk calculus, part Kg: proved rules by which the walks of this seat are made. -/
import Derived.Test.YtilejcofleeeiaaGreatDoorKd
import Derived.RangeFuncRecord
namespace Go.K
open Go
set_option linter.unusedVariables false
set_option linter.unusedSimpArgs false
/-! ### Calls of a value: a function, or a round of a loop over a function -/
def CallsV (P:Program) (f:Value) (args:Array Value) (w:World) (R:Ending→World→Prop):Prop :=
 match f with
 | .func (.func g) first cap=>entersB P g=true∧Calls P g (first++args++cap) w R
 | .func (.yield l) first _=>∃ f tmps assign body,(Instr.yield l (first++args)).run P w=.ok (.round l f tmps assign body) w∧∀ r m,RoundIn { Fence.wide with round:=r } m P l f tmps assign body w R
 | _=>False
theorem CallsV.mono {P:Program} {f:Value} {args:Array Value} {w:World} {R R':Ending→World→Prop} (h:CallsV P f args w R) (hr:∀ e w',R e w'→R' e w'):CallsV P f args w R':=by
 unfold CallsV at *
 split at h
 ·exact ⟨h.1,h.2.mono hr⟩
 ·obtain ⟨f,tmps,a,b,h1,h2⟩:=h
  exact ⟨f,tmps,a,b,h1,fun r m=>(h2 r m).mono hr⟩
 ·exact h
def afterV (K:Value→World→Own→Prop) (Kp:KP):Ending→World→Prop
 | .returned v,w'=>∃ wb' L',Sy wb' L' w'∧K v wb' L'
 | .panicked ch,w'=>∃ wb' L',Sy wb' L' w'∧Kp ch wb' L'
 | .outgrown,_=>False
theorem opS_round {c:Cfg} {fo:Operand} {as:Array Operand} {ats:Array TypeId} {d:Option Nat} {ty:TypeId} {pos:String} {af:Array Edge} {g:Option (Nat×Bool)} {f:Value} {args:Array Value}
 {wb:World} {e:Env} {ds:List Deferred} {L:Own} {K:Value→World→Own→Prop} {Kp:KP} (hf:ev e fo=f) (ha:as.map (ev e)=args)
 (h:∀ w,Sy wb L w→CallsV c.P f args w (afterV K Kp)):OpS c ⟨d,.call ⟨.value fo,as,ats⟩,ty,pos,af,g⟩ wb e ds L (fun v wb' ds' L'=>ds'=ds∧K v wb' L') Kp:=by
 intro a w hr hw next Q hn hp
 have hw':=h w hw
 have hsem:(⟨d,.call ⟨.value fo,as,ats⟩,ty,pos,af,g⟩:Oper).semAt c.r a.eval=(do let d ← resolve (ev e) { callee:=.value fo,args:=as,argTypes:=ats } ty; invoke d.target d.args):=by
  rw[semAt_exec _ _ _ (by intro cl h; cases h),hr.eval]
  simp only[execOp]
 unfold CallsV at hw'
 split at hw'
 ·rename_i g first cap
  have hrun:(do let d ← resolve (ev e) { callee:=.value fo,args:=as,argTypes:=ats } ty; invoke d.target d.args).run c.P w=.ok (.enter g (first++args++cap)) w:=by
   simp[resolve,hf,ha,Deferred.ofValue,invoke,enters_run hw'.1]
  rw[hsem,hrun]
  refine ⟨fun h=>by simp[Cfg.F,Fence.wide] at h,callsIn_of (hw'.2.mono ?_)⟩
  intro en w' hq
  cases en with
  | returned v =>
   obtain ⟨wb',L',hsy,hk⟩:=hq
   have h2:=hn v wb' ds L' w' ⟨rfl,hk⟩ hsy
   rw[← hr.defers] at h2
   exact h2
  | panicked ch =>
   obtain ⟨wb',L',hsy,hk⟩:=hq
   exact hp ch wb' L' w' hk hsy
  | outgrown=>exact hq.elim
 ·rename_i l first cap
  obtain ⟨f,tmps,A,B,hy,hR⟩:=hw'
  have hrun:(do let d ← resolve (ev e) { callee:=.value fo,args:=as,argTypes:=ats } ty; invoke d.target d.args).run c.P w=.ok (.round l f tmps A B) w:=by
   simp[resolve,hf,ha,Deferred.ofValue,invoke,hy]
  rw[hsem,hrun]
  refine ⟨fun h=>by simp[Cfg.F,Fence.wide] at h,(hR c.r _).mono ?_⟩
  intro en w' hq
  cases en with
  | returned v =>
   obtain ⟨wb',L',hsy,hk⟩:=hq
   have h2:=hn v wb' ds L' w' ⟨rfl,hk⟩ hsy
   rw[← hr.defers] at h2
   exact h2
  | panicked ch =>
   obtain ⟨wb',L',hsy,hk⟩:=hq
   exact hp ch wb' L' w' hk hsy
  | outgrown=>exact hq.elim
 ·exact hw'.elim
theorem callVX {c:Cfg} {fo:Operand} {as:Array Operand} {ats:Array TypeId} {d:Option Nat} {ty:TypeId} {pos:String} {af:Array Edge} {g:Option (Nat×Bool)} {f:Value} {args:Array Value}
 {wb:World} {e:Env} {ds:List Deferred} {L:Own} {K:Value→World→Own→Prop} {Kp:KP} (hf:ev e fo=f) (ha:as.map (ev e)=args) (hen:∀ g first cap,f=.func (.func g) first cap→entersB c.P g=true)
 (h:∀ w,Sy wb L w→CallsV c.P f args w (afterV K Kp)):CallV c f args (tag ⟨d,.call ⟨.value fo,as,ats⟩,ty,pos,af,g⟩) wb e ds L (tag K) (tag Kp):=by
 unfold CallV
 split
 ·rename_i g first cap
  exact ⟨hen g first cap rfl,fun w hw=>(h w hw).2.mono fun en w' hq=>by cases en<;>exact hq⟩
 ·exact opS_round hf ha h
/-! ### One round -/
def putL (e:Env):List (Nat×Value)→Env
 | []=>e
 | (t,v)::l=>putL (upd e t v) l
def ended (l:Nat) (L:Own) (wb:World) (j:Option Code) (R:Ending→World→Prop):Prop :=
 ∃ i rec,L[i]?=some (l,.loop rec)∧∀ w,Sy wb (L.set i (l,.loop { rec with state:=if j.isNone then .ready else .done,pending:=j })) w→R (.returned (.bool j.isNone)) w
def roundP (l:Nat) {R:Ending→World→Prop} (_:Tag R):Post
 | .normal,wb,_,_,L=>ended l L wb none R
 | .ret,wb,_,_,L=>ended l L wb (some .ret) R
 | .exit id,wb,_,_,L=>ended l L wb (some (.exit id)) R
 | _,_,_,_,_=>False
theorem Sy.loop_run {wb:World} {L:Own} {w:World} {i l:Nat} {rec:Loop} (h:Sy wb L w) (hi:L[i]?=some (l,.loop rec)):w.heap[l]?=some (.loop rec) :=
 h.own l _ (List.mem_iff_getElem?.2 ⟨i,hi⟩)
theorem Sy.put {wb:World} {L:Own} {w:World} {i l:Nat} {o:Obj} (o':Obj) (h:Sy wb L w) (hi:L[i]?=some (l,o)):Sy wb (L.set i (l,o')) (w.putObj l o'):=h.set o' hi
theorem rep_putL {n:Nat}:∀ (ps:List Nat) (args:List Value) (tmps:Array Value) (e:Env),ps.length=args.length→(∀ p∈ps,p < n)→Rep n { tmps:=tmps,defers:=[] } e [] →
 Rep n { tmps:=((ps.zip args).foldl (fun tmps (ta:Nat×Value)=>tmps.setIfInBounds ta.1 ta.2) tmps),defers:=[] } (putL e (ps.zip args)) []
 | [],_,_,_,_,_,h=>by simpa [putL] using h
 | p::ps,[],_,_,hl,_,_=>by simp at hl
 | p::ps,v::args,tmps,e,hl,hp,h=>by
  simp only[List.zip_cons_cons,List.foldl_cons,putL]
  refine rep_putL ps args _ _ (by simpa using hl) (fun q hq=>hp q (by simp[hq])) ?_
  have:=h.put (ds':=[]) (some p) (fun k hk=>by cases hk; exact hp p (by simp)) v
  simpa [Act.put,puto] using this
theorem wpIn_any {P:Program} {r:Option Nat} {m:Nat} {cd:Code} {Q:Exit→Act→World→Prop} {a:Act} {w:World} (h:cd.wpIn { Fence.wide with round:=r } 0 P Q a w):cd.wpIn { Fence.wide with round:=r } m P Q a w :=
 fun b k cs hro hb _=>h b k cs hro hb (fun _ h=>by simp[Fence.wide] at h)
theorem rep0 {n:Nat} {args:List Value} (hsz:args.length≤n):Rep n { tmps:=args.toArray++Array.replicate (n - args.toArray.size) undef,defers:=[] } (env0 args) []:=by
 refine ⟨?_,fun t=>?_,rfl⟩
 ·simp; omega
 ·simp only[env0,Array.getD_eq_getD_getElem?,List.getD_eq_getElem?_getD]
  rw[Array.getElem?_append]
  simp only[List.size_toArray,List.getElem?_toArray]
  split
  ·rfl
  ·rename_i hlt
   rw[Array.getElem?_replicate]
   have:args[t]?=none:=by simp; omega
   rw[this]
   split<;>rfl
theorem roundX {P:Program} {n:Nat} {wb:World} {L:Own} {l i:Nat} {pend:Option Code} {fn:FuncId} {tmps:Array Value} {ps:List Nat} {A B:Code} {dd:Nat} {args:List Value} {R:Ending→World→Prop} {e:Env}
 (hi:L[i]?=some (l,.loop ⟨.ready,pend,fn,tmps,ps.toArray,A,B,dd⟩)) (htm:Rep n { tmps:=tmps,defers:=[] } e []) (hl:ps.length=args.length) (hps:∀ p∈ps,p < n) (hokA:okCode n A=true) (hokB:okCode n B=true)
 (h:VT ⟨P,n,some l⟩ (tag A) (tag (thenP (tag fun wb' e' ds' L'=>ds'=[]∧∃ j,L'[j]?=some (l,.loop ⟨.ready,pend,fn,tmps,ps.toArray,A,B,dd⟩) ∧
  VT ⟨P,n,some l⟩ (tag B) (tag (roundP l (tag R))) wb' e' [] (L'.set j (l,.loop ⟨.busy,pend,fn,tmps,ps.toArray,A,B,dd⟩))) (tag fun _ _ _ _ _=>False))) wb (putL e (ps.zip args)) [] L) :
 ∀ w,Sy wb L w→CallsV P (.func (.yield l) #[] #[]) args.toArray w R:=by
 intro w hw
 have hrec:=hw.loop_run hi
 refine ⟨fn,_,A,B,by rw[Array.empty_append]; exact run_yield (P:=P) hrec (args:=args.toArray) (by simp[hl]),fun r m=>?_⟩
 refine roundIn_of_wpIn (F:={ Fence.wide with round:=r }) trivial ?_
 have hrep:=rep_putL ps args tmps e hl hps htm
 have hz:(ps.toArray.zip args.toArray).foldl (fun tmps (ta:Nat×Value)=>tmps.setIfInBounds ta.1 ta.2) tmps=(ps.zip args).foldl (fun tmps (ta:Nat×Value)=>tmps.setIfInBounds ta.1 ta.2) tmps:=by
  rw[List.zip_toArray,List.foldl_toArray]
 rw[← hz] at hrep
 have h1:=V_sound (c:=⟨P,n,some l⟩) A _ wb _ [] L hokA h _ w hrep hw
 refine wpIn_any (wpIn_mono h1 ?_)
 rintro x a' w' ⟨wb',e',ds',L',hr',hw',hq⟩
 cases x with
 | normal =>
  obtain ⟨rfl,j,hj,hq⟩:=hq
  have hrec':=hw'.loop_run hj
  refine ⟨_,run_beginRound hrec' rfl,wpIn_any (wpIn_mono (V_sound (c:=⟨P,n,some l⟩) B _ wb' e' [] _ hokB hq a' _ hr' (hw'.put _ hj)) ?_)⟩
  rintro x a'' w'' ⟨wb'',e'',ds'',L'',hr'',hw'',hq⟩
  cases x with
  | normal=>obtain ⟨i,rec,hi,hR⟩:=hq; exact ⟨_,_,run_endRound none (hw''.loop_run hi),hR _ (hw''.put _ hi)⟩
  | ret=>obtain ⟨i,rec,hi,hR⟩:=hq; exact ⟨_,_,run_endRound (some .ret) (hw''.loop_run hi),hR _ (hw''.put _ hi)⟩
  | exit id=>obtain ⟨i,rec,hi,hR⟩:=hq; exact ⟨_,_,run_endRound (some (.exit id)) (hw''.loop_run hi),hR _ (hw''.put _ hi)⟩
  | panic ch=>exact hq.elim
  | goto t=>exact hq.elim
  | outgrown=>exact hq.elim
 | _=>exact hq.elim
/-! ### The loop over a function -/
def jumpP (Q:Post):Option Code→Post
 | none,_,wb,e,ds,L=>Q .normal wb e ds L
 | some .ret,_,wb,e,ds,L=>Q .ret wb e ds L
 | some (.exit id),_,wb,e,ds,L=>Q (.exit id) wb e ds L
 | _,_,_,_,_,_=>False
def loopEnd (l:Nat) (Q:Post) (e:Env) (ds:List Deferred):Ending→World→Prop
 | .returned _,w'=>∃ wb' L' i rec,L'[i]?=some (l,.loop rec)∧rec.state≠.busy∧Sy wb' L' w'∧jumpP Q rec.pending .normal wb' e ds (L'.set i (l,.loop { rec with state:=.exhausted }))
 | _,_=>False
theorem rangeX {c:Cfg} {fo:Operand} {ps:List Nat} {A B:Code} {Q:Post} {wb:World} {e:Env} {ds:List Deferred} {L:Own} {g:FuncId} {first cap:Array Value} (hc:c.r=none) (hf:ev e fo=.func (.func g) first cap) (hen:entersB c.P g=true)
 (h:∀ fn tm d l,Rep c.n { tmps:=tm,defers:=[] } e []→d≠l→wb.heap.size≤d→wb.heap.size≤l→d∉L.map (·.1)→l∉L.map (·.1)→∀ w,Sy wb ((l,.loop ⟨.ready,none,fn,tm,ps.toArray,A,B,d⟩)::(d,.deferred (some []))::L) w →
  Calls c.P g (first++#[.func (.yield l) #[] #[]]++cap) w (loopEnd l Q e ({ target:=.collected d,args:=#[] }::ds))) :
 SemT c (tag (.rangeFunc fo ps.toArray A B)) (tag Q) wb e ds L:=by
 intro a w hr hw
 refine wpIn_rangeFunc fun fn hfn=>?_
 have hw1:=hw.new (.deferred (some []))
 have hw2:=hw1.new (.loop ⟨.ready,none,fn,a.tmps,ps.toArray,A,B,w.heap.size⟩)
 have hs1:({ w with heap:=w.heap.push (.deferred (some [])) }:World).heap.size=w.heap.size+1:=by simp
 rw[hs1] at hw2
 have hfr2:=hw1.fresh
 rw[hs1] at hfr2
 simp only[List.map_cons,List.mem_cons,not_or] at hfr2
 have hsz:=hw.size
 generalize hW:((w.alloc (.deferred (some []))).alloc (.loop { state:=.ready,pending:=none,fn:=fn,tmps:=a.tmps,params:=ps.toArray,assign:=A,body:=B,defers:=w.heap.size }))=W
 have hw3:Sy wb ((w.heap.size+1,.loop ⟨.ready,none,fn,a.tmps,ps.toArray,A,B,w.heap.size⟩)::(w.heap.size,.deferred (some []))::L) W:=by rw[← hW]; exact hw2
 refine ⟨w.heap.size+1,[{ target:=.collected w.heap.size,args:=#[] }],W,{ target:=.fn (.func g) cap,args:=first++#[.func (.yield (w.heap.size+1)) #[] #[]] },W,g,first++#[.func (.yield (w.heap.size+1)) #[] #[]]++cap,W,
  (by rw[show c.F.round=none from hc,← hW]; exact run_enterLoop_outer (P:=c.P) (w:=w) fn a.tmps ps.toArray A B),?_,fun _ _=>trivial,?_,fun h=>by simp[Cfg.F,Fence.wide] at h,?_⟩
 ·simp only[resolve,rangeCall,Sem.run_bind,hr.eval,hf,Deferred.ofValue,Sem.run_pure,Result.andThen_ok]
  simp[ev]
 ·simp only[invoke]
  exact enters_run hen _ _
 ·refine callsIn_of ((h fn a.tmps w.heap.size (w.heap.size+1) ⟨hr.size,hr.get,rfl⟩ (by omega) hsz (by omega) hw.fresh hfr2.2 _ hw3).mono ?_)
  intro en w' hq
  cases en with
  | returned v =>
   obtain ⟨wb',L',i,rec,hi,hb,hsy,hj⟩:=hq
   refine ⟨_,_,run_endLoop (hsy.loop_run hi) hb,?_⟩
   have hsy':=hsy.put (.loop { rec with state:=.exhausted }) hi
   have hrep:Rep c.n { a with defers:=[{ target:=.collected w.heap.size,args:=#[] }]++a.defers } e ({ target:=.collected w.heap.size,args:=#[] }::ds):=⟨hr.size,hr.get,by simp[hr.defers]⟩
   revert hsy' hj
   cases hp:rec.pending with
   | none=>intro hj hsy'; exact ⟨wb',e,_,_,hrep,hsy',hj⟩
   | some cd =>
    intro hj hsy'
    cases cd with
    | ret=>exact wpIn_ret ⟨wb',e,_,_,hrep,hsy',hj⟩
    | exit id=>exact wpIn_exit ⟨wb',e,_,_,hrep,hsy',hj⟩
    | _=>exact (show False from hj).elim
  | panicked ch=>exact hq.elim
  | outgrown=>exact hq.elim
/-! ### A function with such a loop -/
def leaveL (P:Program) (rs:List ResultVar) (R:Ending→World→Prop):List Deferred→World→Env→Own→Prop
 | [],wb,e,L=>ResL P wb L e rs fun vs=>∀ w,Sy wb L w→R (.returned (tup vs)) w
 | d::ds,wb,e,L=>∃ r i,d.target=.collected r∧L[i]?=some (r,.deferred (some []))∧leaveL P rs R ds wb e (L.set i (r,.deferred none))
def retM (P:Program) (rs:List ResultVar) {R:Ending→World→Prop} (_:Tag R):Post
 | .ret,wb,e,ds,L | .normal,wb,e,ds,L=>leaveL P rs R ds wb e L
 | _,_,_,_,_=>False
theorem leaveL_sound {P:Program} {F:Fence} {m n:Nat} {fn:Func} {rs:List ResultVar} {R:Ending→World→Prop} {e:Env} {tmps:Array Value} (hrs:fn.results.toList=rs) (hr:Rep n { tmps:=tmps,defers:=[] } e []):∀ (ds:List Deferred) (wb:World) (L:Own) (w:World),
 Sy wb L w→leaveL P rs R ds wb e L→LeavesInM F m P fn tmps R ds .returning w
 | [],wb,L,w,hw,h=>by
  obtain ⟨vs,hk,hrun⟩:=results_run (fn:=fn) (a:={ tmps:=tmps,defers:=[] }) hr hw (by rw[hrs]; exact h)
  exact ⟨_,hrun,hk w hw⟩
 | d::ds,wb,L,w,hw,⟨r,i,hd,hi,h⟩=>by
  refine ⟨by simp,.inl ⟨r,_,hd,run_takeDeferred (hw.own r _ (List.mem_iff_getElem?.2 ⟨i,hi⟩)),?_⟩⟩
  exact leaveL_sound hrs hr ds wb _ _ (hw.put _ hi) h
theorem enterM {P:Program} {f:FuncId} {fn:Func} {code:Code} {args:List Value} {w:World} {L:Own} {R:Ending→World→Prop} (hf:P.funcs[f]?=some fn) (hb:fn.body=some code) {rs:List ResultVar} {n:Nat} (hn:fn.ntmps=n) (hrs:fn.results.toList=rs) (hok:okCode n code=true) (hsz:args.length≤n)
 (hL:Sy w L w) (h:VT ⟨P,n,none⟩ (tag code) (tag (retM P rs (tag R))) w (env0 args) [] L):Calls P f args.toArray w R:=by
 subst hn
 refine calls_of_in (r:=none) (m:=0) (callsIn_of_wp_marks (F:={ Fence.wide with round:=none }) hf hb trivial (wpIn_mono (V_sound (c:=⟨P,fn.ntmps,none⟩) code _ w _ [] L hok h { tmps:=args.toArray++Array.replicate (fn.ntmps - args.toArray.size) undef,defers:=[] } w (rep0 hsz) hL) ?_))
 rintro x a w' ⟨wb',e',ds',L',hr',hw',hq⟩
 cases x with
 | normal=>rw[← hr'.defers] at hq; exact leaveL_sound hrs ⟨hr'.size,hr'.get,rfl⟩ _ _ _ _ hw' hq
 | ret=>rw[← hr'.defers] at hq; exact leaveL_sound hrs ⟨hr'.size,hr'.get,rfl⟩ _ _ _ _ hw' hq
 | panic ch=>exact hq.elim
 | exit id=>exact hq.elim
 | goto l=>exact hq.elim
 | outgrown=>exact hq.elim
variable {c:Cfg} {o:Oper} {wb:World} {e:Env} {ds:List Deferred} {L:Own}
theorem valX_mono {P:Program} {s:Sem Value} {K K':Value→World→Own→Prop} (hk:∀ v wb L,K v wb L→K' v wb L) (h:ValX P s wb L (tag K)):ValX P s wb L (tag K') :=
 fun w hw=>let ⟨v,w',wb',L',h1,h2,h3⟩:=h w hw; ⟨v,w',wb',L',h1,h2,hk _ _ _ h3⟩
theorem opS_mono {K K':KV} {Kp Kp':KP} (hk:∀ v wb ds L,K v wb ds L→K' v wb ds L) (hp:∀ ch wb L,Kp ch wb L→Kp' ch wb L) (h:OpS c o wb e ds L K Kp):OpS c o wb e ds L K' Kp' :=
 fun a w hr hw next Q h1 h2=>h a w hr hw next Q (fun v wb' ds' L' w' h3 h4=>h1 v wb' ds' L' w' (hk _ _ _ _ h3) h4) (fun ch wb' L' w' h3 h4=>h2 ch wb' L' w' (hp _ _ _ h3) h4)
theorem callV_mono {f:Value} {args:Array Value} {K K':Value→World→Own→Prop} {Kp Kp':KP} (hk:∀ v wb L,K v wb L→K' v wb L) (hp:∀ ch wb L,Kp ch wb L→Kp' ch wb L)
 (h:CallV c f args (tag o) wb e ds L (tag K) (tag Kp)):CallV c f args (tag o) wb e ds L (tag K') (tag Kp'):=by
 unfold CallV at *
 split at h
 ·refine ⟨h.1,fun w hw=>(h.2 w hw).mono fun en w' hq=>?_⟩
  cases en with
  | returned v=>obtain ⟨a,b,h1,h2⟩:=hq; exact ⟨a,b,h1,hk _ _ _ h2⟩
  | panicked ch=>obtain ⟨a,b,h1,h2⟩:=hq; exact ⟨a,b,h1,hp _ _ _ h2⟩
  | outgrown=>exact hq.elim
 ·exact opS_mono (fun v wb ds L ⟨h1,h2⟩=>⟨h1,hk _ _ _ h2⟩) hp h
theorem convX_mono {P:Program} {s d:TypeId} {x:Value} {K K':Value→World→Own→Prop} (hk:∀ v wb L,K v wb L→K' v wb L) (h:ConvX P s d x wb L (tag K)):ConvX P s d x wb L (tag K'):=by
 unfold ConvX at *
 split at h
 ·obtain ⟨v,h1,h2⟩:=h; exact ⟨v,h1,hk _ _ _ h2⟩
 ·exact valX_mono hk h
theorem opNode_mono {K K':KV} {Kp Kp':KP} (hk:∀ v wb ds L,K v wb ds L→K' v wb ds L) (hp:∀ ch wb L,Kp ch wb L→Kp' ch wb L) (h:opNode c o wb e ds L K Kp):opNode c o wb e ds L K' Kp':=by
 unfold opNode at *
 split at h
 all_goals first
  | exact opS_mono hk hp h
  | exact callV_mono (fun v wb L h=>hk _ _ _ _ h) hp h
  | exact convX_mono (fun v wb L h=>hk _ _ _ _ h) h
  | exact valX_mono (fun v wb L h=>hk _ _ _ _ h) h
  | exact hk _ _ _ _ h
  | (obtain ⟨v,h1,h2⟩:=h; exact ⟨v,h1,hk _ _ _ _ h2⟩)
  | (obtain ⟨i,z,h1,h2,h3⟩:=h; exact ⟨i,z,h1,h2,fun b hb hn=>hk _ _ _ _ (h3 b hb hn)⟩)
  | exact fun b hb hn=>hk _ _ _ _ (h b hb hn)
  | (intro w hw; obtain ⟨w',wb',L',h1,h2,h3⟩:=h w hw; exact ⟨w',wb',L',h1,h2,hk _ _ _ _ h3⟩)
  | (obtain ⟨t,x,h1,h2⟩:=h; exact ⟨t,x,h1,hp _ _ _ h2⟩)
  | (obtain ⟨h0,v,h1,h2⟩:=h; exact ⟨h0,v,h1,hk _ _ _ _ h2⟩)
theorem guarded_mono {all:List Oper} {g:Option (Nat×Bool)} {A B A' B':Env→Prop} (ha:∀ e,A e→A' e) (hb:∀ e,B e→B' e) (h:guarded all e g A B):guarded all e g A' B':=by
 unfold guarded at *
 split at h
 ·exact ha _ h
 ·unfold guardedO at *
  split at h
  ·exact ⟨fun hh=>ha _ (h.1 hh),fun hh=>hb _ (h.2 hh)⟩
  ·exact hb _ h
theorem VL_mono {all:List Oper} {Q Q':Post} (hq:∀ x wb e ds L,Q x wb e ds L→Q' x wb e ds L):∀ (rest:List Oper) (wb:World) (e:Env) (ds:List Deferred) (L:Own),VL c all Q rest wb e ds L→VL c all Q' rest wb e ds L
 | [],_,_,_,_,h=>hq _ _ _ _ _ h
 | o::rest,wb,e,ds,L,h=>by
  unfold VL at h ⊢
  exact guarded_mono (fun e h=>opNode_mono (fun v wb ds L h=>VL_mono hq rest _ _ _ _ h) (fun ch wb L h=>hq _ _ _ _ _ h) h) (fun e h=>VL_mono hq rest _ _ _ _ h) h
theorem semX_mono {code:Code} {Q Q':Post} (hq:∀ x wb e ds L,Q x wb e ds L→Q' x wb e ds L) (h:SemX c code Q wb e ds L):SemX c code Q' wb e ds L :=
 fun a w hr hw=>wpIn_mono (h a w hr hw) (lift_mono hq)
theorem thenP_mono {K K':World→Env→List Deferred→Own→Prop} {Q Q':Post} (hk:∀ wb e ds L,K wb e ds L→K' wb e ds L) (hq:∀ x wb e ds L,Q x wb e ds L→Q' x wb e ds L) (x:Exit) (wb:World) (e:Env) (ds:List Deferred) (L:Own) (h:thenP (tag K) (tag Q) x wb e ds L):thenP (tag K') (tag Q') x wb e ds L:=by
 cases x with
 | normal=>exact hk _ _ _ _ h
 | _=>exact hq _ _ _ _ _ h
theorem blockP_mono {id:Nat} {Q Q':Post} (hq:∀ x wb e ds L,Q x wb e ds L→Q' x wb e ds L) (x:Exit) (wb:World) (e:Env) (ds:List Deferred) (L:Own) (h:blockP id (tag Q) x wb e ds L):blockP id (tag Q') x wb e ds L:=by
 cases x with
 | exit id' =>
  simp only[blockP] at *
  split at h
  ·rename_i h1; rw[if_pos h1]; exact hq _ _ _ _ _ h
  ·rename_i h1; rw[if_neg h1]; exact hq _ _ _ _ _ h
 | _=>exact hq _ _ _ _ _ h
theorem V_mono:∀ (code:Code) {Q Q':Post} (_:∀ x wb e ds L,Q x wb e ds L→Q' x wb e ds L) (wb:World) (e:Env) (ds:List Deferred) (L:Own),V c code Q wb e ds L→V c code Q' wb e ds L:=by
 intro code
 induction code with
 | skip=>exact fun hq wb e ds L h=>hq _ _ _ _ _ h
 | region id ops draw =>
  intro Q Q' hq wb e ds L h
  unfold V at *
  cases draw with
  | true=>exact semX_mono hq h
  | false=>exact VL_mono hq _ _ _ _ _ h
 | seq x y ihx ihy=>exact fun hq wb e ds L h=>ihx (thenP_mono (fun wb e ds L h=>ihy hq wb e ds L h) hq) wb e ds L h
 | cond x y z ihy ihz=>exact fun hq wb e ds L ⟨t,h1,h2,h3⟩=>⟨t,h1,fun ht=>ihy hq _ _ _ _ (h2 ht),fun ht=>ihz hq _ _ _ _ (h3 ht)⟩
 | block id y ih=>exact fun hq wb e ds L h=>ih (blockP_mono hq) wb e ds L h
 | loop y _=>exact fun hq wb e ds L h=>semX_mono hq h
 | rangeFunc f ps x y _ _=>exact fun hq wb e ds L h=>semX_mono hq h
 | exit id=>exact fun hq wb e ds L h=>hq _ _ _ _ _ h
 | scope y _=>exact fun hq wb e ds L h=>semX_mono hq h
 | label l=>exact fun hq wb e ds L h=>hq _ _ _ _ _ h
 | goto l=>exact fun hq wb e ds L h=>hq _ _ _ _ _ h
 | ret=>exact fun hq wb e ds L h=>hq _ _ _ _ _ h
 | refuse _=>exact fun hq wb e ds L h=>h.elim
theorem cutV {code:Code} {Q:Post} {K:World→Env→List Deferred→Own→Prop} (I:World→Env→List Deferred→Own→Prop) (h:VT c (tag code) (tag (thenP (tag I) (tag Q))) wb e ds L) (hk:∀ wb e ds L,I wb e ds L→K wb e ds L):VT c (tag code) (tag (thenP (tag K) (tag Q))) wb e ds L :=
 V_mono code (thenP_mono hk (fun _ _ _ _ _ h=>h)) wb e ds L h
theorem lOn {P:Program} {t:TypeId} {b off:Nat} {cs:List Value} {v:Value} {ty:TypeId} {fr:Nat×Nat} {K:Value→Prop} (ht:shapeOf P t=some (false,1)) (hm:(b,.cells cs.toArray ty fr)∈L)
 (hv:cs[off]?=some v) (h:K v):LoadX P t (.pointer (some ⟨b,off,none⟩)) wb L (tag K):=by
 refine loadX_one ht hm ?_ h
 obtain ⟨h1,h2⟩:=List.getElem?_eq_some_iff.1 hv
 rw[List.drop_eq_getElem_cons h1,h2]
 rfl
theorem out_of {b:Nat} (h:∀ p∈L,b < p.1):b∉L.map (·.1):=fun hm=>by
 obtain ⟨p,hp,e⟩:=List.mem_map.1 hm
 have:=h p hp
 omega
theorem idxA {P:Program} {K:Value→Prop} {t el sz len:Nat} (b off:Nat) (k:IntKind) (ht:P.underlying t=some (.array len el)) (hs:(P.info? el).map (·.size)=some sz) (i:Int) (h0:0≤i) (h1:i < len) :
 PureX P (Instr.indexAt t (.pointer (some ⟨b,off,none⟩)) (.int k i)) (tag K)=K (.pointer (some ⟨b,off+i.toNat * sz,none⟩)):=by
 refine px (fun w=>?_) K
 obtain ⟨inf,hi,hz⟩:∃ inf,P.info? el=some inf∧inf.size=sz:=by
  cases hh:P.info? el with
  | none=>rw[hh] at hs; cases hs
  | some inf=>rw[hh] at hs; simp at hs; exact ⟨inf,rfl,hs⟩
 simp only[Instr.indexAt,asIntOf,underlying,Sem.run_bind,Sem.run_pure,run_program,Result.andThen_ok,ht,Instr.sureAddr]
 simp only[h0,h1,and_self,if_true,sizeOf,typeInfo,Sem.run_bind,run_program,Result.andThen_ok,hi,Sem.run_pure,hz]
 unfold Addr.add
 split
 ·rename_i h; simp[h]
 ·rfl
theorem ldF {P:Program} {t:TypeId} {b off:Nat} {v:Value} {K:Value→Prop} (ht:shapeOf P t=some (false,1)) (ha:At wb b off [v]) (hb:b∉L.map (·.1)) (h:K v) :
 LoadX P t (.pointer (some ⟨b,off,none⟩)) wb L (tag K):=loadX_oneF ht ha hb h
theorem newI {o:Obj} {K:Nat→Own→Prop} (h:∀ b,wb.heap.size≤b→b∉L.map (·.1)→K b ((b,o)::L)):NewX wb L o (tag K):=h
theorem lOa {P:Program} {t:TypeId} {b off:Nat} {cs:List Value} {v:Value} {ty:TypeId} {fr:Nat×Nat} {K:Value→Prop} (ht:shapeOf P t=some (false,1))
 (hv:cs[off]?=some v) (h:K v) (hm:(b,.cells cs.toArray ty fr)∈L:=by first|exact mem0|exact mem1|exact mem2|exact mem3|exact mem4|exact mem5):LoadX P t (.pointer (some ⟨b,off,none⟩)) wb L (tag K):=lOn ht hm hv h
theorem lAa {P:Program} {t:TypeId} {b off n:Nat} {cs vs:List Value} {ty:TypeId} {fr:Nat×Nat} {K:Value→Prop} (ht:shapeOf P t=some (true,n))
 (hv:(cs.drop off).take n=vs) (hn:vs.length=n) (h:K (.agg vs.toArray)) (hm:(b,.cells cs.toArray ty fr)∈L:=by first|exact mem0|exact mem1|exact mem2|exact mem3|exact mem4|exact mem5):LoadX P t (.pointer (some ⟨b,off,none⟩)) wb L (tag K):=lAg ht hm hv hn h
theorem gt0 {x:Nat×Obj} {l:Own}:(x::l)[0]?=some x:=rfl
theorem gt1 {x y:Nat×Obj} {l:Own}:(y::x::l)[1]?=some x:=rfl
theorem gt2 {x y z:Nat×Obj} {l:Own}:(y::z::x::l)[2]?=some x:=rfl
theorem gt3 {x y z u:Nat×Obj} {l:Own}:(y::z::u::x::l)[3]?=some x:=rfl
theorem gt4 {x y z u v:Nat×Obj} {l:Own}:(y::z::u::v::x::l)[4]?=some x:=rfl
theorem gt5 {x y z u v w:Nat×Obj} {l:Own}:(y::z::u::v::w::x::l)[5]?=some x:=rfl
theorem gt6 {x y z u v w r:Nat×Obj} {l:Own}:(y::z::u::v::w::r::x::l)[6]?=some x:=rfl
theorem sXb {P:Program} {t:TypeId} {b off n:Nat} {i:Nat} {cs vs:List Value} {ty:TypeId} {x:Value} {K:Own→Prop} (ht:(P.info? t).map (·.size)=some n) (hx:x.cells=vs.toArray) (hn:vs.length=n)
 (h:K (L.set i (b,.cells (splice cs off vs).toArray ty (0,0)))) (hi:L[i]?=some (b,.cells cs.toArray ty (0,0)):=by first|exact gt0|exact gt1|exact gt2|exact gt3|exact gt4|exact gt5|exact gt6) (h1:∀ v∈vs,v.oneCell'=true:=by simp[Value.oneCell']) (hl:off+n≤cs.length:=by simp):StoreX P t (.pointer (some ⟨b,off,none⟩)) x wb L (tag K):=stX i hi ht hx hn h1 hl h
theorem us {A B:Prop} (h:A) (e:A→B:=by intro h; simpa [upd] using h):B:=e h
theorem ud {A B C D:Prop} (d:A→B) (e:(A→B)→C→D:=by intro d h; simpa [upd] using d (by simpa using h)):C→D:=e d
theorem ue {A B C D:Prop} (d:A→B) (e:(A→B)→C→D:=by intro d h; simpa using d (by simpa using h)):C→D:=e d
theorem un {A B:Prop} (h:A) (e:A→B:=by intro h; simpa using h):B:=e h
theorem uu {A:Prop} (h:A:=by simp only[upd]; rfl):A:=h
theorem sd {A B:Prop} (h:B) (e:B→A:=by intro h; simp (disch:=omega) only[push_cast,Nat.reduceEqDiff,decide_true,decide_false,Int.reduceEq]; exact h):A:=e h
theorem nC {n:Nat} {x:Nat×Obj} {L:Own} (h:n≤x.1) (hL:∀ p∈L,n≤p.1):∀ p∈x::L,n≤p.1:=fun p hp=>by rcases List.mem_cons.1 hp with rfl|hp; exact h; exact hL p hp
theorem nA {n:Nat} {A B:Own} (h:∀ p∈A,n≤p.1) (hB:∀ p∈B,n≤p.1):∀ p∈A++B,n≤p.1:=fun p hp=>by rcases List.mem_append.1 hp with hp|hp; exact h p hp; exact hB p hp
theorem sp {A B:Prop} (h:B) (e:B→A:=by intro h; simp (disch:=omega) only[push_cast,Nat.reduceEqDiff]; exact h):A:=e h
theorem xe2 {A0:Type} {A1:Type} {p:A0→A1→Prop} {C:Prop} (h:∃ a0 a1,p a0 a1) (k:∀ a0 a1,p a0 a1→C):C:=by obtain ⟨a0,a1,h⟩:=h; exact k a0 a1 h
theorem xe3 {A0:Type} {A1:Type} {A2:Type} {p:A0→A1→A2→Prop} {C:Prop} (h:∃ a0 a1 a2,p a0 a1 a2) (k:∀ a0 a1 a2,p a0 a1 a2→C):C:=by obtain ⟨a0,a1,a2,h⟩:=h; exact k a0 a1 a2 h
theorem xe4 {A0:Type} {A1:Type} {A2:Type} {A3:Type} {p:A0→A1→A2→A3→Prop} {C:Prop} (h:∃ a0 a1 a2 a3,p a0 a1 a2 a3) (k:∀ a0 a1 a2 a3,p a0 a1 a2 a3→C):C:=by obtain ⟨a0,a1,a2,a3,h⟩:=h; exact k a0 a1 a2 a3 h
theorem xe5 {A0:Type} {A1:Type} {A2:Type} {A3:Type} {A4:Type} {p:A0→A1→A2→A3→A4→Prop} {C:Prop} (h:∃ a0 a1 a2 a3 a4,p a0 a1 a2 a3 a4) (k:∀ a0 a1 a2 a3 a4,p a0 a1 a2 a3 a4→C):C:=by obtain ⟨a0,a1,a2,a3,a4,h⟩:=h; exact k a0 a1 a2 a3 a4 h
theorem xe6 {A0:Type} {A1:Type} {A2:Type} {A3:Type} {A4:Type} {A5:Type} {p:A0→A1→A2→A3→A4→A5→Prop} {C:Prop} (h:∃ a0 a1 a2 a3 a4 a5,p a0 a1 a2 a3 a4 a5) (k:∀ a0 a1 a2 a3 a4 a5,p a0 a1 a2 a3 a4 a5→C):C:=by obtain ⟨a0,a1,a2,a3,a4,a5,h⟩:=h; exact k a0 a1 a2 a3 a4 a5 h
theorem xe7 {A0:Type} {A1:Type} {A2:Type} {A3:Type} {A4:Type} {A5:Type} {A6:Type} {p:A0→A1→A2→A3→A4→A5→A6→Prop} {C:Prop} (h:∃ a0 a1 a2 a3 a4 a5 a6,p a0 a1 a2 a3 a4 a5 a6) (k:∀ a0 a1 a2 a3 a4 a5 a6,p a0 a1 a2 a3 a4 a5 a6→C):C:=by obtain ⟨a0,a1,a2,a3,a4,a5,a6,h⟩:=h; exact k a0 a1 a2 a3 a4 a5 a6 h
theorem xe8 {A0:Type} {A1:Type} {A2:Type} {A3:Type} {A4:Type} {A5:Type} {A6:Type} {A7:Type} {p:A0→A1→A2→A3→A4→A5→A6→A7→Prop} {C:Prop} (h:∃ a0 a1 a2 a3 a4 a5 a6 a7,p a0 a1 a2 a3 a4 a5 a6 a7) (k:∀ a0 a1 a2 a3 a4 a5 a6 a7,p a0 a1 a2 a3 a4 a5 a6 a7→C):C:=by obtain ⟨a0,a1,a2,a3,a4,a5,a6,a7,h⟩:=h; exact k a0 a1 a2 a3 a4 a5 a6 a7 h
theorem xe9 {A0:Type} {A1:Type} {A2:Type} {A3:Type} {A4:Type} {A5:Type} {A6:Type} {A7:Type} {A8:Type} {p:A0→A1→A2→A3→A4→A5→A6→A7→A8→Prop} {C:Prop} (h:∃ a0 a1 a2 a3 a4 a5 a6 a7 a8,p a0 a1 a2 a3 a4 a5 a6 a7 a8) (k:∀ a0 a1 a2 a3 a4 a5 a6 a7 a8,p a0 a1 a2 a3 a4 a5 a6 a7 a8→C):C:=by obtain ⟨a0,a1,a2,a3,a4,a5,a6,a7,a8,h⟩:=h; exact k a0 a1 a2 a3 a4 a5 a6 a7 a8 h
theorem xe10 {A0:Type} {A1:Type} {A2:Type} {A3:Type} {A4:Type} {A5:Type} {A6:Type} {A7:Type} {A8:Type} {A9:Type} {p:A0→A1→A2→A3→A4→A5→A6→A7→A8→A9→Prop} {C:Prop} (h:∃ a0 a1 a2 a3 a4 a5 a6 a7 a8 a9,p a0 a1 a2 a3 a4 a5 a6 a7 a8 a9) (k:∀ a0 a1 a2 a3 a4 a5 a6 a7 a8 a9,p a0 a1 a2 a3 a4 a5 a6 a7 a8 a9→C):C:=by obtain ⟨a0,a1,a2,a3,a4,a5,a6,a7,a8,a9,h⟩:=h; exact k a0 a1 a2 a3 a4 a5 a6 a7 a8 a9 h
theorem sXa {P:Program} {t:TypeId} {b off n:Nat} (i:Nat) {cs vs:List Value} {ty:TypeId} {x:Value} {K:Own→Prop} (hi:L[i]?=some (b,.cells cs.toArray ty (0,0))) (ht:(P.info? t).map (·.size)=some n) (hx:x.cells=vs.toArray) (hn:vs.length=n)
 (h:K (L.set i (b,.cells (splice cs off vs).toArray ty (0,0)))) (h1:∀ v∈vs,v.oneCell'=true:=by simp[Value.oneCell']) (hl:off+n≤cs.length:=by simp):StoreX P t (.pointer (some ⟨b,off,none⟩)) x wb L (tag K):=stX i hi ht hx hn h1 hl h
inductive Fld where
 | mk (nm:List UInt8) (nl:Bool) (k wd id ix:Int) (sub:List Fld)
namespace Fld
def nm:Fld→List UInt8|mk a _ _ _ _ _ _=>a
def nl:Fld→Bool|mk _ a _ _ _ _ _=>a
def k:Fld→Int|mk _ _ a _ _ _ _=>a
def wd:Fld→Int|mk _ _ _ a _ _ _=>a
def id:Fld→Int|mk _ _ _ _ a _ _=>a
def ix:Fld→Int|mk _ _ _ _ _ a _=>a
def sub:Fld→List Fld|mk _ _ _ _ _ _ a=>a
def cells (f:Fld) (a:Option Addr) (c:Nat):List Value:=[str f.nm,.bool f.nl,i64 f.k,i64 f.wd,i64 f.id,i64 f.ix,.slice a f.sub.length c]
def tcells (f:Fld) (a:Option Addr) (c:Nat):List Value:=[i64 f.k,i64 f.wd,i64 f.id,i64 f.ix,.slice a f.sub.length c]
end Fld
inductive Rd (w:World) (lo:Nat):Option Addr→List Fld→Prop where
 | nil (a:Option Addr):Rd w lo a []
 | cons {b off:Nat} {a:Option Addr} {c:Nat} {f:Fld} {rest:List Fld} (hb:b < lo) (hc:f.sub.length≤c) (hn:f.nm.length≤9223372036854775807) (hl:c≤9223372036854775807)
  (hat:At w b off (f.cells a c)) (hs:Rd w lo a f.sub) (hr:Rd w lo (some ⟨b,off+7,none⟩) rest):Rd w lo (some ⟨b,off,none⟩) (f::rest)
theorem Rd.mono {w w':World} {lo:Nat} {a:Option Addr} {l:List Fld} (h:Rd w lo a l) (hw:∀ k,k < lo→w'.heap[k]?=w.heap[k]?):Rd w' lo a l:=by
 induction h with
 | nil a=>exact .nil a
 | cons hb hc hn hl hat hs hr ih1 ih2=>exact .cons hb hc hn hl (hat.of_block (hw _ hb)) ih1 ih2
theorem Rd.weaken {w:World} {lo lo':Nat} {a:Option Addr} {l:List Fld} (h:Rd w lo a l) (hle:lo≤lo'):Rd w lo' a l:=by
 induction h with
 | nil a=>exact .nil a
 | cons hb hc hn hl hat hs hr ih1 ih2=>exact .cons (Nat.lt_of_lt_of_le hb hle) hc hn hl hat ih1 ih2
theorem Rd.get {w:World} {lo:Nat}:∀ {l:List Fld} {b off:Nat} {f:Fld} (i:Nat),Rd w lo (some ⟨b,off,none⟩) l→l[i]?=some f →
 ∃ a c,b < lo∧At w b (off+i * 7) (f.cells a c)∧f.sub.length≤c∧f.nm.length≤9223372036854775807∧c≤9223372036854775807∧Rd w lo a f.sub
 | [],_,_,_,i,_,h2=>by simp at h2
 | g::l,b,off,f,0,h1,h2=>by
  cases h1 with
  | cons hb hc hn hl hat hs hr =>
   simp only[List.getElem?_cons_zero,Option.some.injEq] at h2
   subst h2
   exact ⟨_,_,hb,by simpa using hat,hc,hn,hl,hs⟩
 | g::l,b,off,f,i+1,h1,h2=>by
  cases h1 with
  | cons hb hc hn hl hat hs hr =>
   simp only[List.getElem?_cons_succ] at h2
   obtain ⟨a,c,x1,x2,x3⟩:=Rd.get i hr h2
   exact ⟨a,c,x1,by rw[show off+(i+1) * 7=off+7+i * 7 by omega]; exact x2,x3⟩
theorem Rd.some_of {w:World} {lo:Nat} {a:Option Addr} {f:Fld} {l:List Fld} (h:Rd w lo a (f::l)):∃ b off,a=some ⟨b,off,none⟩∧b < lo:=by
 cases h with
 | cons hb hc hn hl hat hs hr=>exact ⟨_,_,rfl,hb⟩
theorem Rd.take {w:World} {lo:Nat} {a:Option Addr} {l:List Fld} (h:Rd w lo a l) (n:Nat):Rd w lo a (l.take n):=by
 induction h generalizing n with
 | nil a=>simpa using .nil a
 | cons hb hc hn hl hat hs hr ih1 ih2 =>
  cases n with
  | zero=>simpa using .nil _
  | succ n=>exact .cons hb hc hn hl hat hs (ih2 n)
end Go.K
