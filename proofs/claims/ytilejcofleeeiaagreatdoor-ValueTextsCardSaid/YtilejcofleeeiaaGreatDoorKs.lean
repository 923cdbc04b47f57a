/- YtilejcofleeeiaaGreatDoor: the walk calculus, part Ks: proved rules by which the walks of this seat are made. -/
import Derived.Test.YtilejcofleeeiaaGreatDoorKo
import Derived.Deep.OwnRows
import Derived.Laws.CopyRow
namespace Go.K
open Go
open List renaming getElem?_eq_getElem → qH
set_option linter.unusedVariables false
set_option linter.unusedSimpArgs false
variable {wb:World} {L:Own} {P:Program}
theorem made_cells (z:Value) (n:Nat):madeCells #[z] n=(List.replicate n z).toArray:=by
 apply Array.toList_inj.1
 simp only[madeCells,Array.toList_map,Array.toList_range,List.toList_toArray]
 apply List.ext_getElem?
 intro i
 rw[List.getElem?_map,List.getElem?_replicate]
 by_cases h:i < n
 ·simp[h,Nat.mod_one]
 ·simp[h]
theorem makeX {t e:TypeId} {z:Value} {bytes n:Nat} {K:Value→World→Own→Prop} (kl kc:IntKind) (ht:P.underlying t=some (.slice e)) (hi:(P.info? e).map (fun i=>(i.zero,i.size,i.bytes))=some (some z,1,bytes)) (hz:z.cells=#[z]) (hb:bytes * n≤281474976710656) (h63:n≤9223372036854775807)
 (h:NewX wb L (.cells (List.replicate n z).toArray e (0,0)) (tag fun b L=>K (.slice (some ⟨b,0,none⟩) n n) wb L)):ValX P (Instr.makeSlice t (.int kl (n:Int)) (.int kc (n:Int))) wb L (tag K) :=
 valX_new (f:=fun b=>.slice (some ⟨b,0,none⟩) n n) (o:=.cells (List.replicate n z).toArray e (0,0)) (fun w=>by
  rw[run_make_row' t e z bytes ht hi hz kl kc n hb h63 w,made_cells]) h
theorem copyX {t ty e:TypeId} {b n dl:Nat} {cs xs:List Value} {v:Value} {L0:Own} {K:Value→World→Own→Prop} (hu:P.underlying t=some (.slice e)) (hs:(P.info? e).map (·.size)=some 1) (hn:n≤dl) (hcs:dl≤cs.length)
 (hv:RowIn L0 e v n xs) (h1:∀ u∈xs,u.oneCell'=true) (hK:∀ u,K u wb ((b,.cells (xs++cs.drop n).toArray e (0,0))::L0)) :
 ValX P (Builtin.copy_ #[t,t] ty #[.slice (some ⟨b,0,none⟩) dl dl,v]) wb ((b,.cells cs.toArray e (0,0))::L0) (tag K):=by
 intro w hw
 obtain ⟨hxn,⟨rfl,hn0⟩|⟨b',cap,cs',rfl,hm,h2,h3,h4,h5⟩⟩:=hv
 ·have hx0:xs=[]:=List.eq_nil_of_length_eq_zero (by omega)
  subst hx0; subst hn0
  refine ⟨_,w,wb,_,run_copy_nil P w t t ty e ⟨b,0,none⟩ dl dl hu (by rw[hs]; rfl),hw,by simpa using hK _⟩
 ·have hbo:=hw.own b _ (List.mem_cons_self ..)
  have hsrc:∀ j u,xs[j]?=some u→w.cell? ((⟨b',0,none⟩:Addr).add j)=some u:=fun j u hj=>CanRead.of_own (wb:=wb) (L:=(b,.cells cs.toArray e (0,0))::L0) (.tail _ hm) hxn h5 w hw j u hj
  have hrun:=run_copy_row (P:=P) w t t ty e b 0 dl dl ⟨b',0,none⟩ n cap cs.toArray e xs hu hs hbo (by rw[hxn]; exact (Nat.min_eq_left hn).symm) hsrc (by simp; omega) h1
  refine ⟨_,_,wb,_,hrun,?_,hK _⟩
  have h6:=hw.set (i:=0) (b:=b) (o:=.cells cs.toArray e (0,0)) (.cells (xs++cs.drop n).toArray e (0,0)) (by simp)
  simp only[List.set_cons_zero] at h6
  have h7:w.setRow b (cs.toArray.toList.take 0++xs++cs.toArray.toList.drop (0+xs.length)).toArray={ w with heap:=w.heap.setIfInBounds b (.cells (xs++cs.drop n).toArray e (0,0)) }:=by
   unfold World.setRow
   congr 1
   apply Array.ext_getElem?
   intro j
   rw[Array.getElem?_modify,Array.getElem?_setIfInBounds]
   have hlt:=(Array.getElem?_eq_some_iff.1 hbo).1
   split
   ·rename_i hj; subst hj; rw[hbo]; simp[hxn,hlt]
   ·rfl
  rw[h7]
  exact h6
theorem RowO.overs {e:TypeId} {size n:Nat} {L' M:Own} {v:Value} {xs:List Value} (ps:Own) (h:RowO wb e size L' M v n xs):∃ L'',RowO wb e size L'' (ps++M) v n xs∧∀ w,Sy wb (ps++L') w→Sy wb L'' w:=by
 obtain ⟨h0,⟨h1,h2,h3⟩|⟨b,cap,cs,h1,h2,h3⟩⟩:=h
 ·subst h3; exact ⟨ps++L',⟨h0,.inl ⟨h1,h2,rfl⟩⟩,fun w hw=>hw⟩
 ·subst h2; exact ⟨_,⟨h0,.inr ⟨b,cap,cs,h1,rfl,h3⟩⟩,fun w hw=>hw.perm List.perm_middle⟩
theorem RowO.is_slice {e:TypeId} {size n:Nat} {L' M:Own} {v:Value} {xs:List Value} (h:RowO wb e size L' M v n xs):∃ a c,v=.slice a n c:=by
 obtain ⟨h0,⟨h1,h2,h3⟩|⟨b,cap,cs,h1,h2,h3⟩⟩:=h
 ·subst h2; exact ⟨none,0,h1⟩
 ·exact ⟨_,cap,h1⟩
theorem RowIn.is_slice {e:TypeId} {n:Nat} {M:Own} {v:Value} {xs:List Value} (h:RowIn M e v n xs):∃ a c,v=.slice a n c:=by
 obtain ⟨h0,⟨h1,h2⟩|⟨b,cap,cs,h1,h2⟩⟩:=h
 ·subst h2; exact ⟨none,0,h1⟩
 ·exact ⟨_,cap,h1⟩
theorem Stab.of {Lq:Own} (h:Lq.Sublist L) (hL:∀ p∈L,wb.heap.size≤p.1):Stab wb L Lq:=fun w hw=>hw.drop h (fun p hp=>.inr (hL p hp))
/-! ### Drawn regions by an invariant: what only reads goes ahead; each of the others keeps what is known of those that are done -/
variable {wb:World} {L:Own} {c:Cfg} {ds:List Deferred}
structure FreeJ (ops:List Oper) (hs ts:List Nat) (c:Cfg) (wb:World) (Lq:Own) (val:Nat→Value) (U:List Nat) (listed:Array Bool) (e Ec:Env):Prop where
 size:listed.size=ops.length
 un:U.Nodup
 ul:∀ i∈U,i < ops.length
 iff:∀ i,i < ops.length→(listed.getD i true=false↔i∈U)
 closed:∀ j,j < ops.length→j∉U→∀ d∈bdeps ops j,d∉U
 agree:∀ s,(∀ i∈hs,i∈U→dstN ops i≠some s)→e s=Ec s
 qv:∀ i∈hs,∀ s,dstN ops i=some s→Ec s=val i
 qy:∀ i∈hs,i∈U→∀ o,ops[i]?=some o→QY c wb Lq o Ec (val i)
theorem doneJ_of {ops:List Oper} {hs ts:List Nat} {Lq:Own} {val:Nat→Value} {U:List Nat} {listed:Array Bool} {e Ec:Env} (I:FreeJ ops hs ts c wb Lq val U listed e Ec) (F:FreeOK ops hs ts) {d:Nat} (hd:listed.getD d false=true):d∉U:=fun h=>by
 have h1:=(I.iff d (I.ul d h)).2 h
 rw[getD_both h1] at hd
 cases hd
theorem free_inv {ops:Array Oper} {hs ts:List Nat} {Lq:Own} {val:Nat→Value} {Q:Post} (F:FreeOK ops.toList hs ts) (hok:okOps c.n ops=true) (I0:(Nat→Bool)→Env→List Deferred→Own→Prop)
 (hst:∀ D e ds L,I0 D e ds L→∀ w,Sy wb L w→Sy wb Lq w)
 (hstep:∀ i∈ts,∀ (D:Nat→Bool) (o:Oper) (e:Env) (ds:List Deferred) (L:Own),ops.toList[i]?=some o→D i=false→(∀ d∈bdeps ops.toList i,D d=true)→I0 D e ds L →
  opNode c o wb e ds L (fun v wb' ds' L'=>wb'=wb∧∃ L'',(∀ w,Sy wb L' w→Sy wb L'' w)∧I0 (fun j=>D j || j == i) (puto e o.dst v) ds' L'') (fun _ _ _=>False))
 (hend:∀ D e ds L,(∀ i∈ts,D i=true)→I0 D e ds L→Q .normal wb e ds L):∀ (fuel:Nat) (U:List Nat) (listed:Array Bool) (a:Act) (w:World) (e Ec:Env) (ds:List Deferred) (L:Own) (D:Nat→Bool),
 U.length=fuel→FreeJ ops.toList hs ts c wb Lq val U listed e Ec→(∀ j∈ts,D j=!(U.contains j))→(∀ j∈hs,D j=true)→Rep c.n a e ds→Sy wb L w→I0 D Ec ds L →
 wpAnyIn { Fence.wide with round:=c.r } 0 c.P .any ops (lift c Q) fuel listed a w:=by
 have hget:∀ i:Nat,ops[i]?=ops.toList[i]?:=fun i=>Array.getElem?_toList.symm
 have hdl:∀ (i:Nat) (o:Oper),ops.toList[i]?=some o→∀ k,o.dst=some k→k < c.n:=fun i o ho k hk=>by
  have h1:=Array.all_eq_true'.1 hok o (Array.mem_toList_iff.1 (List.mem_of_getElem? ho))
  rw[hk] at h1
  simpa using h1
 have hdst:∀ (i:Nat) (o:Oper),ops.toList[i]?=some o→dstN ops.toList i=o.dst:=fun i o ho=>by simp[dstN,ho]
 intro fuel
 induction fuel with
 | zero =>
  intro U listed a w e Ec ds L D hU I hD hDh hr hw hV
  have hU0:U=[]:=List.eq_nil_of_length_eq_zero hU
  subst hU0
  refine ⟨?_,?_⟩
  ·rw[List.eq_nil_iff_forall_not_mem]
   intro i hi
   obtain ⟨h1,o,ho,_⟩:=mem_ready.1 hi
   rw[hget] at ho
   have:=(I.iff i (List.getElem?_eq_some_iff.1 ho).1).1 h1
   cases this
  ·have hV:=hend D Ec ds L (fun i hi=>by rw[hD i hi]; rfl) hV
   have he:e=Ec:=funext fun s=>I.agree s (fun i _ h=>by cases h)
   subst he
   exact ⟨wb,e,ds,L,hr,hw,hV⟩
 | succ fuel ih =>
  intro U listed a w e Ec ds L D hU I hD hDh hr hw hV
  have hall:∀ i∈Region.ready .any ops listed,i∈U∧i < ops.toList.length∧∃ o,ops.toList[i]?=some o∧∀ d∈bdeps ops.toList i,d∉U:=fun i hi=>by
   obtain ⟨h1,o,ho,h2⟩:=mem_ready.1 hi
   rw[hget] at ho
   have hlt:=(List.getElem?_eq_some_iff.1 ho).1
   refine ⟨(I.iff i hlt).1 h1,hlt,o,ho,fun d hd=>?_⟩
   simp only[bdeps,ho,List.mem_map,List.mem_filter] at hd
   obtain ⟨x,⟨hx,hb⟩,rfl⟩:=hd
   exact doneJ_of I F (h2 x (by simpa using hx) hb)
  have hne:∀ i,i∈U→Region.ready .any ops listed≠[]:=by
   intro i
   induction i using Nat.strongRecOn with
   | _ i ihs =>
    intro hi hnil
    have hlt:=I.ul i hi
    obtain ⟨o,ho⟩:∃ o,ops.toList[i]?=some o:=⟨_,qH hlt⟩
    by_cases hdeps:∀ d∈bdeps ops.toList i,d∉U
    ·have:i∈Region.ready .any ops listed:=mem_ready.2 ⟨(I.iff i hlt).2 hi,o,by rw[hget]; exact ho,fun x hx hb=>by
      have hd:x.on∈bdeps ops.toList i:=by
       simp only[bdeps,ho,List.mem_map,List.mem_filter]
       exact ⟨x,⟨by simpa using hx,hb⟩,rfl⟩
      have hnu:=hdeps _ hd
      have hxl:x.on < ops.toList.length:=Nat.lt_trans ((F.op i o ho).2.2 _ hd) hlt
      have h3:listed.getD x.on true≠false:=fun h=>hnu ((I.iff _ hxl).1 h)
      cases h4:listed.getD x.on false with
      | true=>rfl
      | false=>exact absurd (getD_in (by rw[I.size]; exact hxl) h4) h3⟩
     rw[hnil] at this
     cases this
    ·simp only[Classical.not_forall,Classical.not_not] at hdeps
     obtain ⟨d,hd,hdU⟩:=hdeps
     exact ihs d ((F.op i o ho).2.2 d hd) hdU hnil
  refine ⟨fun hnil=>?_,fun i hi=>?_⟩
  ·cases U with
   | nil=>cases hU
   | cons x l=>exact absurd hnil (hne x (by simp))
  obtain ⟨hiU,hil,o,ho,hdep⟩:=hall i hi
  obtain ⟨hg,⟨rl,hrl⟩,hlt⟩:=F.op i o ho
  have hrd:rdsN ops.toList i=rl:=by simp[rdsN,ho,hrl]
  have hnd:∀ cl,o.op≠.defer cl:=fun cl h=>by rw[h] at hrl; cases hrl

  have hU':(U.erase i).length=fuel:=by rw[List.length_erase_of_mem hiU,hU]; rfl
  have mem':∀ j,j∈U.erase i↔j≠i∧j∈U:=fun j=>I.un.mem_erase_iff
  have hsz:(listed.setIfInBounds i true).size=ops.toList.length:=by simpa using I.size
  have hiff:∀ j,j < ops.toList.length→((listed.setIfInBounds i true).getD j true=false↔j∈U.erase i):=fun j hj=>by
   rw[mem']
   by_cases hij:i=j
   ·subst hij
    have:i < listed.size:=by rw[I.size]; exact hil
    simp[this]
   ·rw[getD_set_ne true hij,I.iff j hj]
    constructor
    ·exact fun h=>⟨fun h2=>hij h2.symm,h⟩
    ·exact fun h=>h.2
  have hclosed:∀ j,j < ops.toList.length→j∉U.erase i→∀ d∈bdeps ops.toList j,d∉U.erase i:=fun j hj hjU d hd hdU=>by
   have hdU2:=((mem' d).1 hdU).2
   by_cases hji:j=i
   ·subst hji; exact hdep d hd hdU2
   ·exact I.closed j hj (fun h=>hjU ((mem' j).2 ⟨hji,h⟩)) d hd hdU2

  have hreads:∀ t∈rl,e t=Ec t:=fun t ht=>I.agree t (fun j hj hjU hdj=>by
   rcases F.reads hil hdj (by rw[hrd]; exact ht) with ⟨h1,h2⟩|⟨_,_,h3⟩|⟨_,h2,_⟩
   ·subst h1; exact h2 hj
   ·exact hdep j h3 hjU
   ·exact h2 hj)
  unfold wpOpIn
  rw[hget,ho]
  simp only
  rw[if_pos (by simp[Region.wanted,hg])]
  rcases F.part i hil with ⟨hih,hit⟩|⟨hih,hit⟩
  ·
   have hq:=I.qy i hih hiU o ho w (hst _ _ _ _ hV w hw)
   rw[← exec_rd hrl hreads] at hq
   refine ⟨fun _ _=>trivial,?_⟩
   rw[semAt_exec _ _ _ hnd,hr.eval,hq]
   show wpAnyIn _ 0 c.P .any ops (lift c Q) fuel (listed.setIfInBounds i true) (a.put o.dst (val i)) w
   have hput:Rep c.n (a.put o.dst (val i)) (puto e o.dst (val i)) ds:=by
    have:=hr.put (ds':=ds) o.dst (hdl i o ho) (val i)
    rwa [← hr.defers] at this ⊢
   refine ih (U.erase i) _ _ w _ Ec ds L D hU' ⟨hsz,I.un.erase i,fun j hj=>I.ul j ((mem' j).1 hj).2,hiff,hclosed,fun s hs=>?_,I.qv,fun j hj hjU=>I.qy j hj ((mem' j).1 hjU).2⟩ (fun j hj=>(by
    have hji:j≠i:=fun h=>hit (by rw[← h]; exact hj)
    rw[hD j hj]
    by_cases hjU:j∈U
    ·rw[List.contains_iff_mem.2 hjU,List.contains_iff_mem.2 ((mem' j).2 ⟨hji,hjU⟩)]
    ·rw[Bool.eq_false_iff.2 (fun h=>hjU (List.contains_iff_mem.1 h)),Bool.eq_false_iff.2 (fun h=>hjU ((mem' j).1 (List.contains_iff_mem.1 h)).2)])) hDh hput hw hV
   by_cases hds:dstN ops.toList i=some s
   ·rw[I.qv i hih s hds]
    rw[hdst i o ho] at hds
    rw[hds]
    simp[puto,upd]
   ·have h1:puto e o.dst (val i) s=e s:=by
     rw[hdst i o ho] at hds
     cases hd:o.dst with
     | none=>rfl
     | some k=>simp only[puto,upd]; rw[if_neg (fun h=>hds (by rw[hd,h]))]
    rw[h1]
    refine I.agree s (fun j hj hjU hdj=>?_)
    by_cases hji:j=i
    ·subst hji; exact hds hdj
    ·exact hs j hj ((mem' j).2 ⟨hji,hjU⟩) hdj
  ·
   have hDi:D i=false:=by rw[hD i hit,List.contains_iff_mem.2 hiU]; rfl
   have hV:=hstep i hit D o Ec ds L ho hDi (fun d hd=>(by
    have hdl:d < ops.toList.length:=Nat.lt_trans (hlt d hd) hil
    rcases F.part d hdl with ⟨h1,_⟩|⟨_,h1⟩
    ·exact hDh d h1
    ·rw[hD d h1,Bool.eq_false_iff.2 (fun h=>hdep d hd (List.contains_iff_mem.1 h))]; rfl)) hV
   have hO:=opS_of_node hV
   have hO2:=opS_rd hrl (fun t ht=>(hreads t ht).symm) (hdl i o ho) hnd (fun t ht=>?_) hO
   ·refine ⟨fun _ _=>trivial,hO2 a w hr hw _ _ (fun v wb' ds' L' w' hk hsy=>?_) (fun ch wb' L' w' hk hsy=>hk.elim)⟩
    obtain ⟨rfl,L'',hsub,hV'⟩:=hk
    refine ih (U.erase i) _ _ w' (puto e o.dst v) (puto Ec o.dst v) ds' L'' _ hU' ⟨hsz,I.un.erase i,fun j hj=>I.ul j ((mem' j).1 hj).2,hiff,hclosed,fun s hs=>?_,fun j hj s hds=>?_,fun j hj hjU o' ho'=>?_⟩ (fun j hj=>?_) (fun j hj=>by rw[hDh j hj]; rfl) (hr.put o.dst (hdl i o ho) v) (hsub _ hsy) hV'
    ·cases hd:o.dst with
     | none=>exact I.agree s (fun j hj hjU=>hs j hj ((mem' j).2 ⟨fun h=>hih (by rw[← h]; exact hj),hjU⟩))
     | some k =>
      simp only[puto,upd]
      by_cases hsk:s=k
      ·simp[hsk]
      ·rw[if_neg hsk,if_neg hsk]
       exact I.agree s (fun j hj hjU=>hs j hj ((mem' j).2 ⟨fun h=>hih (by rw[← h]; exact hj),hjU⟩))
    ·rw[← I.qv j hj s hds]
     cases hd:o.dst with
     | none=>rfl
     | some k =>
      simp only[puto,upd]
      rw[if_neg (fun h=>?_)]
      subst h
      have:=F.dst_inj hds (by rw[hdst i o ho]; exact hd)
      exact hih (by rw[this]; exact hj)
    ·have hjU2:=((mem' j).1 hjU).2
     have hq:=I.qy j hj hjU2 o' ho'
     obtain ⟨_,⟨rl',hrl'⟩,_⟩:=F.op j o' ho'
     intro w2 hw2
     rw[← hq w2 hw2]
     refine congrArg (fun x=>Sem.run c.P x w2) (exec_rd hrl' (fun t ht=>?_))
     cases hd:o.dst with
     | none=>rfl
     | some k =>
      simp only[puto,upd]
      rw[if_neg (fun h=>?_)]
      subst h
      have hjl:=(List.getElem?_eq_some_iff.1 ho').1
      rcases F.reads hjl (show dstN ops.toList i=some t by rw[hdst i o ho]; exact hd) (by simp[rdsN,ho',hrl']; exact ht) with ⟨h1,h2⟩|⟨_,h2,_⟩|⟨_,_,h3⟩
      ·exact h2 hj
      ·exact hih h2
      ·exact hdep j (h3 hj) hjU2
    ·by_cases hji:j=i
     ·subst hji
      have:j∉U.erase j:=fun h=>((mem' j).1 h).1 rfl
      rw[Bool.eq_false_iff.2 (fun h=>this (List.contains_iff_mem.1 h))]
      simp
     ·have h2:(j == i)=false:=by simpa using hji
      simp only[h2,Bool.or_false]
      rw[hD j hj]
      by_cases hjU:j∈U
      ·rw[List.contains_iff_mem.2 hjU,List.contains_iff_mem.2 ((mem' j).2 ⟨hji,hjU⟩)]
      ·rw[Bool.eq_false_iff.2 (fun h=>hjU (List.contains_iff_mem.1 h)),Bool.eq_false_iff.2 (fun h=>hjU ((mem' j).1 (List.contains_iff_mem.1 h)).2)]
   ·
    have h1:=hr.undef t ht
    rw[← h1]
    refine (I.agree t (fun j hj hjU hdj=>?_)).symm
    obtain ⟨oj,hoj⟩:∃ oj,ops.toList[j]?=some oj:=⟨_,qH (dst_lt hdj)⟩
    rw[hdst j oj hoj] at hdj
    exact absurd (hdl j oj hoj t hdj) (Nat.not_lt.2 ht)
def StepX (c:Cfg) {rem:List Oper} (_:Tag rem) (j:Nat) (wb:World) (e:Env) (ds:List Deferred) (L:Own) {K:Env→World→List Deferred→Own→Prop} (_:Tag K):Prop :=
 match rem[j]? with|some o=>opNode c o wb e ds L (fun v wb' ds' L'=>K (puto e o.dst v) wb' ds' L') (fun _ _ _=>False)|none=>False
@[push_cast] theorem StepX_succ {l:List Oper} (o:Oper) (j:Nat) (e:Env) {K:Env→World→List Deferred→Own→Prop}:StepX c (tag (o::l)) (j+1) wb e ds L (tag K)=StepX c (tag l) j wb e ds L (tag K):=by
 unfold StepX
 rw[List.getElem?_cons_succ]
@[push_cast] theorem StepX_zero {l:List Oper} {d:Option Nat} {ty:TypeId} {pos:String} {af:Array Edge} {g:Option (Nat×Bool)} (op:Op) (e:Env) {K:Env→World→List Deferred→Own→Prop}:StepX c (tag (⟨d,op,ty,pos,af,g⟩::l)) 0 wb e ds L (tag K) =
 OT c op (tag ⟨d,op,ty,pos,af,g⟩) wb e ds L (tag fun v wb' ds' L'=>K (puto e d v) wb' ds' L') (tag fun _ _ _=>False):=(rfl)
def depB (ops:List Oper) (ts:List Nat) (T:List (Nat×List Nat)):Bool:=(ts.all fun i=>(T.map (·.1)).contains i) && T.all fun p=>p.2.all fun d=>(bdeps ops p.1).contains d
theorem freeIT {e:Env} {id:Nat} {ops:List Oper} {Q:Post} (hs ts:List Nat) (T:List (Nat×List Nat)) (Lq:Own) (I0:(Nat→Bool)→Env→List Deferred→Own→Prop) (hok:okOps c.n ops.toArray=true) (hm:c.P.follows .mixedOrders=true) (hB:freeB ops hs ts=true) (hT:depB ops ts T=true) (hq:∀ D e ds L,I0 D e ds L→Stab wb L Lq)
 (hstep:∀ p∈T,∀ (D:Nat→Bool) (e:Env) (ds:List Deferred) (L:Own),D p.1=false→(∀ d∈p.2,D d=true)→I0 D e ds L→StepX c (tag ops) p.1 wb e ds L (tag fun e' wb' ds' L'=>wb'=wb∧∃ L'',(∀ w,Sy wb L' w→Sy wb L'' w)∧I0 (fun j=>D j || j == p.1) e' ds' L''))
 (hend:∀ D e ds L,(∀ i∈ts,D i=true)→I0 D e ds L→Q .normal wb e ds L) (hq0:Stab wb L Lq)
 (h:VQX c (tag ops) hs wb Lq (tag fun E=>I0 (fun j=>hs.contains j) E ds L) e):SemT c (tag (.region id ops.toArray true)) (tag Q) wb e ds L:=by
 have F:=freeOK_of hB
 intro a w hr hw
 refine wpIn_region_any hm ?_
 obtain ⟨val,hV,hqy⟩:=quiet_phase (c:=c) hs e F.hn (fun i hi=>by
  obtain ⟨hl,hqo,_⟩:=F.quiet i hi
  obtain ⟨o,ho⟩:∃ o,ops[i]?=some o:=⟨_,qH hl⟩
  exact ⟨o,ho,(F.op i o ho).1,hqo o ho⟩) h
 have hl:ops.toArray.toList=ops:=by simp
 have hlen:ops.toArray.size=ops.length:=by simp
 rw[hlen]
 have hinj:∀ i s,dstN ops i=some s→∀ j,dstN ops j=some s→j=i:=fun i s hi j hj=>F.dst_inj hi hj
 simp only[depB,Bool.and_eq_true,List.all_eq_true,List.contains_iff_mem,List.mem_map] at hT
 obtain ⟨hT1,hT2⟩:=hT
 have hdisj:∀ i∈ts,i∉hs:=fun i hi hh=>by
  rcases F.part i (F.tail i hi) with ⟨_,h2⟩|⟨h2,_⟩
  ·exact h2 hi
  ·exact h2 hh
 refine free_inv (Lq:=Lq) (val:=val) (hs:=hs) (ts:=ts) (by rw[hl]; exact F) hok I0 hq (fun i hi D o e ds L ho hD hd hI=>?_) hend ops.length (List.range ops.length) _ a _ e (foldQ ops val hs e) ds L (fun j=>hs.contains j) (by simp) ?_ (fun j hj=>?_) (fun j hj=>List.contains_iff_mem.2 hj) hr hw.drew hV
 ·obtain ⟨p,hp,rfl⟩:=hT1 i hi
  rw[hl] at ho hd
  have:=hstep p hp D e ds L hD (fun d hd'=>hd d (hT2 p hp d hd')) hI
  unfold StepX at this
  rw[ho] at this
  exact this
 rotate_left
 ·have h1:j∉hs:=hdisj j hj
  have h2:j∈List.range ops.length:=List.mem_range.2 (F.tail j hj)
  rw[Bool.eq_false_iff.2 (fun h=>h1 (List.contains_iff_mem.1 h)),List.contains_iff_mem.2 h2]; rfl
 rw[hl]
 refine ⟨by simp,List.nodup_range,fun i hi=>List.mem_range.1 hi,fun i hi=>by simp[hi],fun j hj hjU=>absurd (List.mem_range.2 hj) hjU,fun s hs'=>?_,fun i hi s hds=>foldQ_mem hds (hinj i s hds) hs e hi,fun i hi _ o ho=>?_⟩
 ·refine (foldQ_other hs e (fun i hi=>hs' i hi (List.mem_range.2 (F.quiet i hi).1))).symm
 ·obtain ⟨k,hk⟩:=List.mem_iff_getElem?.1 hi
  have hq1:=hqy k i hk o ho
  obtain ⟨_,⟨rl,hrl⟩,hlt⟩:=F.op i o ho
  intro w2 hw2
  rw[← hq1 w2 hw2]
  refine congrArg (fun x=>Sem.run c.P x w2) (exec_rd hrl (fun t ht=>?_))
  have hsplit:foldQ ops val hs e=foldQ ops val (hs.drop k) (foldQ ops val (hs.take k) e):=by
   unfold foldQ
   rw[← List.foldl_append,List.take_append_drop]
  rw[hsplit]
  refine foldQ_other _ _ (fun j hj hdj=>?_)
  obtain ⟨m,hm'⟩:=List.mem_iff_getElem?.1 hj
  rw[List.getElem?_drop] at hm'
  have hjh:j∈hs:=List.mem_of_getElem? hm'
  rcases F.reads (F.quiet i hi).1 hdj (by simp[rdsN,ho,hrl]; exact ht) with ⟨_,h2⟩|⟨hne,_,h3⟩|⟨_,h2,_⟩
  ·exact h2 hi
  ·have h4:=hlt j h3
   have h5:i≤j:=by
    rcases Nat.eq_zero_or_pos m with rfl|hm0
    ·rw[Nat.add_zero,hk] at hm'
     cases hm'
     exact Nat.le_refl _
    ·have:=List.pairwise_iff_getElem.1 F.asc k (k+m) (List.getElem?_eq_some_iff.1 hk).1 (List.getElem?_eq_some_iff.1 hm').1 (by omega)
     rw[(List.getElem?_eq_some_iff.1 hk).2,(List.getElem?_eq_some_iff.1 hm').2] at this
     omega
   omega
  ·exact h2 hjh
/-! ### Drawn regions by an invariant alone: whatever comes next (guards, calls, what makes memory) keeps what is known of those that are done -/
variable {wb:World} {L:Own} {c:Cfg} {ds:List Deferred}
def StepG (c:Cfg) {all:List Oper} (_:Tag all) {rem:List Oper} (_:Tag rem) (j:Nat) (wb:World) (e:Env) (ds:List Deferred) (L:Own) {K:Env→World→List Deferred→Own→Prop} (_:Tag K):Prop :=
 match rem[j]? with|some o=>guarded all e o.guard (fun e=>opNode c o wb e ds L (fun v wb' ds' L'=>K (puto e o.dst v) wb' ds' L') (fun _ _ _=>False)) (fun e=>K (puto e o.dst undef) wb ds L)|none=>False
section forms
variable {all l:List Oper} {d:Option Nat} {ty:TypeId} {pos:String} {af:Array Edge} {K:Env→World→List Deferred→Own→Prop} (e:Env)
@[push_cast] theorem StepG_succ (o:Oper) (j:Nat):StepG c (tag all) (tag (o::l)) (j+1) wb e ds L (tag K)=StepG c (tag all) (tag l) j wb e ds L (tag K):=by
 unfold StepG
 rw[List.getElem?_cons_succ]
@[push_cast] theorem StepG_none (op:Op):StepG c (tag all) (tag (⟨d,op,ty,pos,af,none⟩::l)) 0 wb e ds L (tag K) =
 OT c op (tag ⟨d,op,ty,pos,af,none⟩) wb e ds L (tag fun v wb' ds' L'=>K (puto e d v) wb' ds' L') (tag fun _ _ _=>False):=(rfl)
@[push_cast] theorem StepG_some (op:Op) (j:Nat) (want:Bool):StepG c (tag all) (tag (⟨d,op,ty,pos,af,some (j,want)⟩::l)) 0 wb e ds L (tag K) =
 guardT (tag all) j e want (tag fun e=>OT c op (tag ⟨d,op,ty,pos,af,some (j,want)⟩) wb e ds L (tag fun v wb' ds' L'=>K (puto e d v) wb' ds' L') (tag fun _ _ _=>False)) (tag fun e=>K (puto e d undef) wb ds L):=by
 show guardedO (gdst all j) e want _ _=_
 unfold guardT
 rw[gdst_eq]
 rfl
end forms
end Go.K
