/- YtilejcofleeeiaaGreatDoor: plain: what is read was written, and fits; the places of what can't be read; there and back. -/
import Derived.Test.YtilejcofleeeiaaGreatDoorW213
namespace Go.Proofs.YtilejcofleeeiaaGreatDoor
open Go Go.K
open List renaming length_cons → qN, getElem?_eq_getElem → qH
set_option maxRecDepth 100000
set_option linter.unusedVariables false
set_option linter.unusedSimpArgs false
/-! Which bytes stand in which texts. -/
theorem small_dg {c:UInt8} (h:dgB c=true):smallB c=true:=by
 have:=(dgB_iff c).1 h
 unfold smallB
 exact decide_eq_true (.inl this)
theorem hex_small {n:Nat} (h:n < 16):smallB (hexC n)=true:=by
 have:=hexC_nat h
 unfold smallB
 refine decide_eq_true ?_
 split at this<;>omega
theorem hexs_small:∀ (m x:Nat),∀ c∈hexs x m,smallB c=true
 | 0,x,c,h=>by cases h
 | m+1,x,c,h=>by
  rw[hexs] at h
  rcases List.mem_append.1 h with h|h
  ·exact hexs_small m _ c h
  ·rw[List.mem_singleton.1 h]; exact hex_small (Nat.mod_lt _ (by decide))
theorem itoa_small (n:Int):∀ c∈Lib.itoa n,smallB c=true:=fun c hc=>by
 obtain ⟨x,r,e,h1,h2⟩:=itoa_head n
 rw[e] at hc
 rcases List.mem_cons.1 hc with rfl|hc
 ·rcases h1 with rfl|h1
  ·decide
  ·exact small_dg h1
 ·exact small_dg (h2 c hc)
theorem fin_small (m:Nat) (a:Int):∀ c∈finT m a,smallB c=true:=fun c hc=>by
 unfold finT at hc
 rcases List.mem_append.1 hc with hc|hc
 ·exact small_dg ((dec_all m).1 c hc)
 ·rcases List.mem_cons.1 hc with rfl|hc
  ·decide
  ·exact itoa_small a c hc
theorem nan_small:∀ c∈([110,97,110]:List UInt8),smallB c=true:=by decide
theorem floatU_small (x:Nat):∀ c∈floatU x,smallB c=true:=fun c hc=>by
 unfold floatU at hc
 split at hc
 ·split at hc
  ·revert c; decide
  ·rcases List.mem_append.1 hc with hc|hc
   ·exact nan_small c hc
   ·exact hexs_small _ _ c hc
 ·split at hc
  ·revert c; decide
  ·exact fin_small _ _ c hc
theorem numT_small (k n:Int):∀ c∈numT k n,smallB c=true:=fun c hc=>by
 unfold numT at hc
 split at hc
 ·unfold boolT at hc
  split at hc<;>revert c<;>decide
 ·split at hc
  ·exact small_dg ((dec_all _).1 c hc)
  ·split at hc
   ·unfold floatT at hc
    split at hc
    ·rcases List.mem_cons.1 hc with rfl|hc
     ·decide
     ·exact floatU_small _ c hc
    ·exact floatU_small _ c hc
   ·exact itoa_small _ c hc
theorem floatU_pos (x:Nat):floatU x≠[]:=by obtain ⟨c,r,e,_⟩:=floatU_head x; rw[e]; simp
theorem numT_pos (k n:Int):numT k n≠[]:=by
 unfold numT
 split
 ·unfold boolT; split<;>simp
 ·split
  ·exact (dec_all _).2.1
  ·split
   ·unfold floatT
    split
    ·simp
    ·exact floatU_pos _
   ·obtain ⟨c,r,e,_⟩:=itoa_head n; rw[e]; simp
theorem null_head {l:List UInt8} {c:UInt8} {r:List UInt8} (h:l=c::r) (hc:c≠110):l≠nullT:=fun e=>by
 rw[h] at e
 exact hc (List.cons.inj e).1
theorem dg_not {c d:UInt8} (h:dgB c=true) (hd:dgB d=false):c≠d:=fun e=>by rw[e,hd] at h; cases h
theorem floatU_null (x:Nat):floatU x≠nullT:=by
 unfold floatU
 split
 ·split
  ·decide
  ·intro e
   have:=congrArg List.length e
   rw[List.length_append,hexs_len] at this
   simp[nullT] at this
 ·split
  ·decide
  ·obtain ⟨c,r,e,h⟩:=finT_head (oddM x) (oddE x)
   exact null_head e (dg_not h (by decide))
theorem numT_null (k n:Int):numT k n≠nullT:=by
 unfold numT
 split
 ·unfold boolT; split<;>decide
 ·split
  ·obtain ⟨h1,h2,_⟩:=dec_all (unsP n)
   obtain ⟨c,r,e⟩:=List.exists_cons_of_ne_nil h2
   exact null_head e (dg_not (h1 c (by rw[e]; exact .head _)) (by decide))
  ·split
   ·unfold floatT
    split
    ·exact null_head rfl (by decide)
    ·exact floatU_null _
   ·obtain ⟨c,r,e,h,_⟩:=itoa_head n
    refine null_head e ?_
    rcases h with rfl|h
    ·decide
    ·exact dg_not h (by decide)
def endsB (x:List UInt8):Prop:=x=[]∨∃ c r,x=c::r∧(c.toNat=44∨c.toNat=93∨c.toNat=125∨c.toNat=41)
theorem ends_small {x:List UInt8} (h:endsB x):∀ c,x.head?=some c→smallB c=false:=by
 rcases h with rfl|⟨c,r,rfl,h⟩
 ·intro c h; cases h
 ·intro d hd
  cases hd
  unfold smallB
  exact decide_eq_false (by omega)
theorem rowP_at {f:UInt8→Bool} {s t x:List UInt8} {q:Nat} (hs:s.drop q=t++x) (ht:∀ c∈t,f c=true) (hp:∀ c,x.head?=some c→f c=false):rowP f s q=t:=by
 unfold rowP
 rw[hs,List.takeWhile_append_of_pos ht]
 cases x with
 | nil=>simp
 | cons c r=>rw[List.takeWhile_cons,if_neg (by rw[hp c rfl]; decide),List.append_nil]
theorem rowP_nil {f:UInt8→Bool} {s x:List UInt8} {q:Nat} {c:UInt8} (hs:s.drop q=c::x) (hc:f c=false):rowP f s q=[]:=rowP_at (t:=[]) hs (fun c h=>by cases h) (fun d hd=>by cases hd; exact hc)
theorem name_all {l:List UInt8} (h:isName l):∀ c∈l,nameB c=true:=fun c hc=>by
 obtain ⟨i,hi⟩:=List.mem_iff_getElem?.1 hc
 have h1:=(h.1 i (List.getElem?_eq_some_iff.1 hi).1).1
 rw[List.getD_eq_getElem?_getD,hi] at h1
 exact decide_eq_true h1
theorem show_null:∀ (d:Nat) (ind:Bool) (f:Fld) (v:Vl) (s x:List UInt8) (q:Nat),okT d ind f→fitD d f v=true→v.nu=false→s.drop q=showV d f v++x→endsB x→¬ (rowP smallB s q=nullT∧opensB s (q+4)=false)
 | 0,ind,f,v,s,x,q,hok,_,_,_,_=>hok.elim
 | d+1,ind,f,v,s,x,q,hok,hf,hnu,hs,hx=>by
  rw[showV,if_neg (by rw[hnu]; decide)] at hs
  by_cases hA:f.k=19∨f.k=20
  ·rw[if_pos hA] at hs
   have hlen:1≤f.sub.length:=by
    have h1:=hok.1.1.2.2.2.1
    rcases hA with hk|hk<;>rw[hk] at h1<;>simp[leastK] at h1<;>omega
   obtain ⟨g,hg⟩:∃ g,f.sub[0]?=some g:=⟨_,qH (by omega)⟩
   rw[hg] at hs
   exact show_null d _ g v s x q (hok.2 g (List.mem_of_getElem? hg)) (fit_wrap hnu hA hg hf) hnu hs hx
  rw[if_neg hA] at hs
  have nil_no:rowP smallB s q=[]→¬ (rowP smallB s q=nullT∧opensB s (q+4)=false):=fun h1 h2=>by rw[h1] at h2; exact absurd h2.1 (by decide)
  by_cases h12:f.k=12
  ·rw[if_pos h12] at hs
   exact nil_no (rowP_nil (c:=34) hs (by decide))
  rw[if_neg h12] at hs
  by_cases h13:f.k=13∨f.k=14
  ·rw[if_pos h13] at hs
   have:rowP smallB s q=[120]:=rowP_at (t:=[120]) (x:=34::(v.tx.flatMap byteT++[34]++x)) (by rw[hs]; rfl) (by decide) (fun c hc=>by cases hc; decide)
   rw[this]
   exact fun h=>absurd h.1 (by decide)
  rw[if_neg h13] at hs
  by_cases h18:f.k=18
  ·rw[if_pos h18] at hs
   obtain ⟨g,z,hg,hz,hl,_,_,hgz⟩:=fit_union hnu h18 hf
   rw[hg,hz] at hs
   have hnm:=(hok.2 g (List.mem_of_getElem? hg)).name
   have hs':s.drop q=g.nm++(40::(showV d g z++[41]++x)):=by rw[hs,List.append_assoc]; rfl
   rintro ⟨h1,h2⟩

   have hpre:nullT <+: g.nm:=by
    have e1:rowP smallB s q=nullT:=h1
    unfold rowP at e1
    rw[hs'] at e1
    have hp:nullT <+: g.nm++(40::(showV d g z++[41]++x)):=by rw[← e1]; exact List.takeWhile_prefix _
    refine pre_pre hp ?_
    rcases Nat.lt_or_ge g.nm.length nullT.length with hlt|hge
    ·exfalso
     obtain ⟨t,ht⟩:=hp
     have h40:(nullT++t)[g.nm.length]?=some 40:=by rw[ht,List.getElem?_append_right (Nat.le_refl _),Nat.sub_self]; rfl
     rw[List.getElem?_append_left hlt] at h40
     have:(40:UInt8)∈nullT:=List.mem_of_getElem? h40
     exact absurd this (by decide)
    ·exact hge
   obtain ⟨t,ht⟩:=hpre
   rw[← ht,List.append_assoc] at hs'
   have h4:=drop_to hs'
   have hop:opensB s (q+4)=true:=by
    unfold opensB
    cases t with
    | nil =>
     rw[(drop_cons (show s.drop (q+4)=40::_ from h4)).1]
     rfl
    | cons c t =>
     rw[(drop_cons (show s.drop (q+4)=c::_ from h4)).1]
     have:=name_all hnm c (by rw[← ht]; exact List.mem_append_right _ (.head _))
     simp[this]
   rw[hop] at h2
   cases h2
  rw[if_neg h18] at hs
  by_cases h15:f.k=15∨f.k=16∨f.k=17
  ·rw[if_pos h15] at hs
   exact nil_no (rowP_nil (c:=if f.k=17 then 123 else 91) hs (by split<;>decide))
  rw[if_neg h15] at hs
  rw[rowP_at hs (numT_small _ _) (ends_small hx)]
  exact fun h=>numT_null _ _ h.1
theorem show_head:∀ (d:Nat) (ind:Bool) (f:Fld) (v:Vl),okT d ind f→fitD d f v=true→∃ c r,showV d f v=c::r∧c.toNat≠93
 | 0,ind,f,v,hok,_=>hok.elim
 | d+1,ind,f,v,hok,hf=>by
  rw[showV]
  by_cases hnu:v.nu=true
  ·rw[if_pos hnu]; exact ⟨_,_,rfl,by decide⟩
  have hnf:v.nu=false:=by simpa using hnu
  rw[if_neg hnu]
  by_cases hA:f.k=19∨f.k=20
  ·rw[if_pos hA]
   have hlen:1≤f.sub.length:=by
    have h1:=hok.1.1.2.2.2.1
    rcases hA with hk|hk<;>rw[hk] at h1<;>simp[leastK] at h1<;>omega
   obtain ⟨g,hg⟩:∃ g,f.sub[0]?=some g:=⟨_,qH (by omega)⟩
   rw[hg]
   exact show_head d _ g v (hok.2 g (List.mem_of_getElem? hg)) (fit_wrap hnf hA hg hf)
  rw[if_neg hA]
  by_cases h12:f.k=12
  ·rw[if_pos h12]; exact ⟨_,_,rfl,by decide⟩
  rw[if_neg h12]
  by_cases h13:f.k=13∨f.k=14
  ·rw[if_pos h13]; exact ⟨_,_,rfl,by decide⟩
  rw[if_neg h13]
  by_cases h18:f.k=18
  ·rw[if_pos h18]
   obtain ⟨g,z,hg,hz,hl,_,_,hgz⟩:=fit_union hnf h18 hf
   rw[hg,hz]
   have hnm:=(hok.2 g (List.mem_of_getElem? hg)).name
   obtain ⟨c,r,e⟩:=List.exists_cons_of_ne_nil hnm.2.1
   refine ⟨c,r++40::(showV d g z++[41]),by simp only[e]; rfl,fun h=>?_⟩
   have:=of_decide_eq_true (name_all hnm c (by rw[e]; exact .head _))
   omega
  rw[if_neg h18]
  by_cases h15:f.k=15∨f.k=16∨f.k=17
  ·rw[if_pos h15]
   exact ⟨_,_,rfl,by split<;>decide⟩
  rw[if_neg h15]
  obtain ⟨c,r,e⟩:=List.exists_cons_of_ne_nil (numT_pos f.k v.num)
  refine ⟨c,r,e,fun h=>?_⟩
  have:=of_decide_eq_true (numT_small f.k v.num c (by rw[e]; exact .head _))
  omega
def Wrote (s:List UInt8) (d:Nat) (g:Fld) (R:Nat→PV Vl):Prop:=∀ (q:Nat) (v:Vl) (r:Nat),R q=.ok v r→s.drop q=showV d g v++s.drop r∧fitD d g v=true∧∀ n,rngD n v
theorem items_wrote (s:List UInt8) (d:Nat) (f g:Fld) (R:Nat→PV Vl) (hk:f.k=15∨f.k=16) (hg:f.sub[0]?=some g) (hR:Wrote s d g R):∀ (m i q:Nat) (l:List Vl) (r:Nat),itemsV s f.k f.wd R m i q=.ok l r→(f.k=15→i≤4096) →
 s.drop q=itemsT f (showV d) i l++93::s.drop r∧(f.k=16→((i+l.length:Nat):Int)=f.wd)∧(f.k=15→i+l.length≤4096)∧∀ v∈l,fitD d g v=true∧∀ n,rngD n v
 | 0,i,q,l,r,h,hi=>by cases h
 | m+1,i,q,l,r,h,hi=>by
  have h17:¬ f.k=17:=by omega
  rw[itemsV] at h
  split at h
  ·rename_i hc
   obtain ⟨u,r',h1,h2⟩:=PV.and_eq_ok h
   cases h2
   obtain ⟨h3,h4⟩:=mustV_some h1
   exact ⟨h3,fun _=>by simpa using hc.2,fun h15=>by omega,fun v hv=>by cases hv⟩
  ·rename_i hn16
   split at h
   ·rename_i hc
    cases h
    exact ⟨cons_drop hc.2,fun h16=>by omega,fun h=>by simpa using hi h,fun v hv=>by cases hv⟩
   ·obtain ⟨u,r1,h1,h⟩:=PV.and_eq_ok h
    split at h
    ·cases h
    rename_i hno
    obtain ⟨v,r2,h2,h⟩:=PV.and_eq_ok h
    obtain ⟨l',r3,h3,h⟩:=PV.and_eq_ok h
    cases h
    obtain ⟨w1,w2,w3⟩:=hR _ _ _ h2
    obtain ⟨i1,i2,i3,i4⟩:=items_wrote s d f g R hk hg hR m (i+1) r2 l' r h3 (fun h=>by have:=hi h; omega)
    have e1:itemT f (showV d) i v=(if i=0 then [] else [44])++showV d g v:=by
     unfold itemT
     rw[show childN f i=0 from if_neg h17,hg]
     congr 1
     split
     ·rw[if_neg h17]; rfl
     ·rfl
    refine ⟨?_,fun h=>?_,fun h=>?_,fun w hw=>?_⟩
    ·rw[itemsT,e1,List.append_assoc,List.append_assoc,← i1,← w1]
     split at h1
     ·rename_i h0
      cases h1
      rw[if_pos h0]; rfl
     ·rename_i h0
      rw[if_neg h0]
      exact (mustV_some h1).1
    ·have:=i2 h; rw[qN,← this]; congr 1; omega
    ·have:=i3 h; rw[qN]; omega
    ·rcases List.mem_cons.1 hw with rfl|hw
     ·exact ⟨w2,w3⟩
     ·exact i4 w hw
theorem kids_wrote (s:List UInt8) (d:Nat) (f:Fld) (hk:f.k=17):∀ (gs:List Fld) (i q:Nat) (l:List Vl) (r:Nat),(∀ j,gs[j]?=f.sub[i+j]?)→(∀ g∈gs,Wrote s d g (readV s d g))→kidsV s (readV s d) (decide (i=0)) gs q=.ok l r →
 s.drop q=itemsT f (showV d) i l++125::s.drop r∧l.length=gs.length∧(∀ v∈l,∀ n,rngD n v)∧∀ (j:Nat) (g:Fld) (v:Vl),gs[j]?=some g→l[j]?=some v→fitD d g v=true
 | [],i,q,l,r,hgs,hR,h=>by
  rw[kidsV] at h
  obtain ⟨u,r',h1,h2⟩:=PV.and_eq_ok h
  cases h2
  exact ⟨(mustV_some h1).1,rfl,fun v hv=>(by cases hv),fun j g v hj=>(by simp at hj)⟩
 | g::gs,i,q,l,r,hgs,hR,h=>by
  have hg:f.sub[i]?=some g:=by have:=hgs 0; simpa using this.symm
  rw[kidsV] at h
  obtain ⟨u,r1,h1,h⟩:=PV.and_eq_ok h
  obtain ⟨u2,r2,h2,h⟩:=PV.and_eq_ok h
  obtain ⟨v,r3,h3,h⟩:=PV.and_eq_ok h
  obtain ⟨l',r4,h4,h⟩:=PV.and_eq_ok h
  cases h
  obtain ⟨w1,w2,w3⟩:=hR g (.head _) _ _ _ h3
  have h4':kidsV s (readV s d) (decide (i+1=0)) gs r3=.ok l' r:=by rw[decide_eq_false (by omega)]; exact h4
  obtain ⟨i1,i2,i3,i4⟩:=kids_wrote s d f hk gs (i+1) r3 l' r (fun j=>by have:=hgs (j+1); rw[List.getElem?_cons_succ] at this; rw[this]; congr 1; omega) (fun g hg=>hR g (.tail _ hg)) h4'
  have e1:itemT f (showV d) i v=(if i=0 then [] else [44])++((g.nm++[58])++showV d g v):=by
   unfold itemT
   rw[show childN f i=i from if_pos hk,hg]
   simp only
   rw[if_pos hk]
  refine ⟨?_,by rw[qN,qN,i2],fun w hw=>?_,fun j g' w hj hw=>?_⟩
  ·have hm:=(mustV_some h2).1
   rw[itemsT,e1,List.append_assoc,List.append_assoc,List.append_assoc,← i1,← w1,← hm]
   split at h1
   ·rename_i h0
    cases h1
    rw[if_pos (un h0)]; rfl
   ·rename_i h0
    rw[if_neg (un h0)]
    exact (mustV_some h1).1
  ·rcases List.mem_cons.1 hw with rfl|hw
   ·exact w3
   ·exact i3 w hw
  ·cases j with
   | zero =>
    simp only[List.getElem?_cons_zero,Option.some.injEq] at hj hw
    subst hj; subst hw
    exact w2
   | succ j=>exact i4 j g' w (un hj) (un hw)
theorem andT {a b:Bool} (h1:a=true) (h2:b=true):(a && b)=true:=by rw[h1,h2]; rfl
theorem notOr {p:Prop} [Decidable p] {b:Bool} (h:p→b=true):(!decide p || b)=true:=by
 by_cases hp:p
 ·rw[h hp,Bool.or_true]
 ·rw[decide_eq_false hp]; rfl
theorem wrap_len {f:Fld} (h:shapedF f) (hA:f.k=19∨f.k=20):∃ g,f.sub=[g]:=by
 have h1:=h.2.2.2.1
 have h2:=h.2.2.2.2
 have hlen:f.sub.length=1:=by rcases hA with hk|hk<;>rw[hk] at h1 h2<;>simp[leastK,mostK] at h1 h2<;>omega
 exact List.length_eq_one_iff.1 hlen
theorem read_null (s:List UInt8):∀ (d:Nat) (ind:Bool) (f:Fld) (q:Nat) (v:Vl) (r:Nat),okT d ind f→readV s d f q=.ok v r→v.nu=true→letsP f=true∧rowP smallB s q=nullT∧opensB s (q+4)=false
 | 0,ind,f,q,v,r,hok,_,_=>hok.elim
 | d+1,ind,f,q,v,r,hok,h,hv=>by
  rw[readV] at h
  split at h
  ·rename_i hn
   exact hn
  rename_i hnn
  exfalso
  split at h
  ·rename_i hA
   obtain ⟨g,hsub⟩:=wrap_len hok.1.1 hA
   have hg:f.sub[0]?=some g:=by rw[hsub]; rfl
   rw[hg] at h
   have hokg:=hok.2 g (List.mem_of_getElem? hg)
   have ih:=read_null s d _ g q v r hokg h hv
   rcases hA with hk|hk
   ·have hfn:=hok.1.2.2.1 hk
    unfold firstNl at hfn
    rw[hsub] at hfn
    have hgn:g.nl=false:=by simpa using hfn
    have hg20:¬ (g.k=19∨g.k=20):=by
     cases d with
     | zero=>exact hokg.elim
     | succ d=>exact hokg.1.2.2.2.1 (by simp[hk])
    have:=lets_out (f:=g) (fun h=>hg20 (.inr h.1))
    rw[ih.1,hgn] at this
    simp at this
   ·exact hnn ⟨by rw[lets_in hk hsub]; exact ih.1,ih.2⟩
  ·split at h
   ·obtain ⟨t,r',h1,h2⟩:=PV.and_eq_ok h
    cases h2; cases hv
   ·split at h
    ·obtain ⟨t,r',h1,h2⟩:=PV.and_eq_ok h
     cases h2; cases hv
    ·split at h
     ·obtain ⟨t,r',h1,h2⟩:=PV.and_eq_ok h
      split at h2
      ·cases h2; cases hv
      ·cases h2
     ·split at h
      ·obtain ⟨_,r',h1,h2⟩:=PV.and_eq_ok h
       obtain ⟨t,r'',h3,h4⟩:=PV.and_eq_ok h2
       cases h4; cases hv
      ·split at h
       ·obtain ⟨_,r',h1,h2⟩:=PV.and_eq_ok h
        obtain ⟨t,r'',h3,h4⟩:=PV.and_eq_ok h2
        cases h4; cases hv
       ·split at h
        ·unfold choiceV at h
         split at h
         ·obtain ⟨_,r1,h1,h2⟩:=PV.and_eq_ok h
          obtain ⟨t,r2,h3,h4⟩:=PV.and_eq_ok h2
          obtain ⟨_,r3,h5,h6⟩:=PV.and_eq_ok h4
          cases h6; cases hv
         ·cases h
        ·split at h
         ·cases h; cases hv
         ·cases h
theorem row_drop (f:UInt8→Bool) (s:List UInt8) (q:Nat):s.drop q=rowP f s q++s.drop (runP f s q):=by
 have hp:rowP f s q <+: s.drop q:=List.takeWhile_prefix _
 obtain ⟨t,ht⟩:=hp
 rw[runP_eq,drop_to ht.symm,ht]
theorem read_wrote (s:List UInt8):∀ (d:Nat) (ind:Bool) (f:Fld),okT d ind f→Wrote s d f (readV s d f)
 | 0,ind,f,hok=>hok.elim
 | d+1,ind,f,hok=>by
  intro q v r h
  have hfin:∀ (num:Int) (tx:List UInt8) (ls:List Vl),(-9223372036854775808≤num∧num < 9223372036854775808)→(∀ x∈ls,∀ n,rngD n x)→∀ n,rngD n (.mk false num tx ls):=fun num tx ls h1 h2 n=>by
   cases n with
   | zero=>trivial
   | succ n=>exact ⟨h1,fun x hx=>h2 x hx n⟩
  have z64:(-9223372036854775808:Int)≤0∧(0:Int) < 9223372036854775808:=by decide
  have hnull:=read_null s (d+1) ind f q v r hok h
  rw[readV] at h
  split at h
  ·rename_i hn
   cases h
   refine ⟨?_,?_,fun n=>?_⟩
   ·rw[showV,if_pos (show (Vl.mk true 0 [] []).nu=true from rfl)]
    have h1:rowP smallB s q=nullT:=hn.2.1
    have hp:nullT <+: s.drop q:=by rw[← h1]; exact List.takeWhile_prefix _
    obtain ⟨t,ht⟩:=hp
    have h4:s.drop (q+4)=t:=drop_to (t:=nullT) ht.symm
    rw[← ht,h4]
   ·rw[fitD,if_pos (show (Vl.mk true 0 [] []).nu=true from rfl)]
    simp[Vl.ls,Vl.num,Vl.tx,hn.1]
   ·cases n with
    | zero=>trivial
    | succ n=>exact ⟨z64,fun x hx=>by cases hx⟩
  rename_i hnn
  have hvn:v.nu=false:=by
   cases hv:v.nu with
   | false=>rfl
   | true=>exact absurd (hnull hv) hnn
  clear hnull
  have hnu:¬ v.nu=true:=by rw[hvn]; decide
  rw[showV,if_neg hnu,fitD,if_neg hnu]
  by_cases hA:f.k=19∨f.k=20
  ·rw[if_pos hA] at h ⊢
   rw[if_pos hA]
   obtain ⟨g,hsub⟩:=wrap_len hok.1.1 hA
   have hg:f.sub[0]?=some g:=by rw[hsub]; rfl
   rw[hg] at h ⊢
   obtain ⟨w1,w2,w3⟩:=read_wrote s d _ g (hok.2 g (List.mem_of_getElem? hg)) q v r h
   refine ⟨w1,?_,w3⟩
   simp only
   rw[w2,Bool.and_true]
   cases d with
   | zero=>exact (hok.2 g (List.mem_of_getElem? hg)).elim
   | succ d=>rw[fitD] at w2; exact (Bool.and_eq_true_iff.1 w2).1
  rw[if_neg hA] at h ⊢
  rw[if_neg hA]
  by_cases h12:f.k=12
  ·rw[if_pos h12] at h ⊢
   rw[if_neg (by omega),if_neg (by omega),if_pos (.inl h12)]
   obtain ⟨t,r',h1,h2⟩:=PV.and_eq_ok h
   cases h2
   obtain ⟨_,r2,h3,h4⟩:=PV.and_eq_ok h1
   obtain ⟨m1,m2⟩:=mustV_some h3
   obtain ⟨q1,q2⟩:=restV_some s _ _ _ _ h4
   refine ⟨?_,?_,hfin _ _ _ z64 (fun x hx=>by cases hx)⟩
   ·rw[m1,q1]; simp[textT,Vl.tx]
   ·simp only[Vl.tx,Vl.ls,Vl.num,List.length_nil,q2]
    simp
    omega
  rw[if_neg h12] at h ⊢
  by_cases h13:f.k=13∨f.k=14
  ·rw[if_pos h13]
   rw[if_neg (by omega),if_neg (by omega),if_pos (by omega)]
   have key:∃ t r',rawV s q=.ok t r'∧v=.mk false 0 t []∧r=r'∧(f.k=14→(t.length:Int)=f.wd):=by
    rcases h13 with hk|hk
    ·rw[if_pos hk] at h
     obtain ⟨t,r',h1,h2⟩:=PV.and_eq_ok h
     cases h2
     exact ⟨t,_,h1,rfl,rfl,fun h=>by omega⟩
    ·rw[if_neg (by omega),if_pos hk] at h
     obtain ⟨t,r',h1,h2⟩:=PV.and_eq_ok h
     split at h2
     ·rename_i hw
      cases h2
      exact ⟨t,_,h1,rfl,rfl,fun _=>hw⟩
     ·cases h2
   obtain ⟨t,r',h1,rfl,rfl,hw⟩:=key
   obtain ⟨_,r2,h3,h4⟩:=PV.and_eq_ok h1
   obtain ⟨m1,m2⟩:=mustV_some h3
   have q1:=hexV_some s _ _ _ _ h4
   refine ⟨?_,?_,hfin _ _ _ z64 (fun x hx=>by cases hx)⟩
   ·rw[m1,q1]; simp[bytesT,Vl.tx]
   ·exact andT (decide_eq_true (Nat.zero_le _)) (andT (decide_eq_true rfl) (andT (decide_eq_true rfl) (andT (notOr fun h=>absurd h h12) (notOr fun h=>decide_eq_true (hw h)))))
  rw[if_neg h13]
  rw[if_neg (by omega),if_neg (by omega)] at h
  by_cases h18:f.k=18
  ·rw[if_neg (by omega),if_neg (by omega),if_pos h18] at h
   rw[if_pos h18,if_pos h18]
   unfold choiceV at h
   split at h
   ·rename_i i g hi hgf
    obtain ⟨_,r1,h1,h2⟩:=PV.and_eq_ok h
    obtain ⟨z,r2,h3,h4⟩:=PV.and_eq_ok h2
    obtain ⟨_,r3,h5,h6⟩:=PV.and_eq_ok h4
    cases h6
    obtain ⟨hil,hiq,_⟩:=List.findIdx?_eq_some_iff_getElem.1 hi
    have hgs:=List.find?_some hgf
    obtain ⟨_,i',hi',hge,hlt⟩:=List.find?_eq_some_iff_getElem.1 hgf
    have hii:i'=i:=by
     have hap:=hok.1.2.2.2.2.2 i' i f.sub[i'] f.sub[i] (qH hi') (qH hil) (by
      rw[hge]
      simp only[beq_iff_eq] at hgs hiq
      rw[hgs,hiq])
     exact hap
    subst hii
    have hg:f.sub[i']?=some g:=by rw[qH hi',hge]
    have hgm:=List.mem_of_getElem? hg
    obtain ⟨w1,w2,w3⟩:=read_wrote s d _ g (hok.2 g hgm) _ _ _ h3
    have hname:rowP nameB s q=g.nm:=(beq_iff_eq.1 hgs).symm
    have hl32:f.sub.length≤32:=by
     have h9:=hok.1.1.2.2.2.2
     rw[h18] at h9
     simp[mostK] at h9
     omega
    simp only[Vl.num,Vl.ls,Vl.tx,Int.toNat_natCast,hg,List.getElem?_cons_zero,w2,List.length_singleton]
    refine ⟨?_,?_,hfin _ _ _ (by omega) (fun x hx=>by rw[List.mem_singleton.1 hx]; exact w3)⟩
    ·rw[row_drop nameB s q,hname,(mustV_some h1).1,w1,(mustV_some h5).1]
     simp
    ·simp
     omega
   ·cases h
  rw[if_neg h18,if_neg h18]
  by_cases h15:f.k=15∨f.k=16∨f.k=17
  ·rw[if_pos h15,if_pos h15]
   by_cases h17:f.k=17
   ·rw[if_neg (by omega),if_pos h17] at h
    obtain ⟨_,r1,h1,h2⟩:=PV.and_eq_ok h
    obtain ⟨l,r2,h3,h4⟩:=PV.and_eq_ok h2
    cases h4
    obtain ⟨k1,k2,k3,k4⟩:=kids_wrote s d f h17 f.sub 0 r1 l r (fun j=>by rw[Nat.zero_add]) (fun g hg=>read_wrote s d _ g (hok.2 g hg)) h3
    have hl32:f.sub.length≤32:=by
     have h9:=hok.1.1.2.2.2.2
     rw[h17] at h9
     simp[mostK] at h9
     omega
    refine ⟨?_,?_,hfin _ _ _ z64 k3⟩
    ·rw[if_pos h17,if_pos h17,(mustV_some h1).1,k1]; simp[Vl.ls]
    ·refine andT (decide_eq_true (show l.length≤4096 by omega)) (andT (decide_eq_true rfl) (andT (decide_eq_true rfl) (andT (decide_eq_true fun h=>absurd h (by omega)) (andT (decide_eq_true fun _=>k2) (List.all_eq_true.2 fun j hj=>?_)))))
     have hj:j < l.length:=List.mem_range.1 hj
     have hg:f.sub[j]?=some f.sub[j]:=qH (by omega)
     have hv:l[j]?=some l[j]:=qH hj
     show (match f.sub[childN f j]?,l[j]? with|some g,some x=>fitD d g x|_,_=>false)=true
     rw[show childN f j=j from if_pos h17,hg,hv]
     exact k4 j _ _ hg hv
   ·have hk2:f.k=15∨f.k=16:=by omega
    rw[if_pos hk2] at h
    obtain ⟨_,r1,h1,h2⟩:=PV.and_eq_ok h
    obtain ⟨l,r2,h3,h4⟩:=PV.and_eq_ok h2
    cases h4
    have hlen:1≤f.sub.length:=by
     have h1:=hok.1.1.2.2.2.1
     rcases hk2 with hk|hk<;>rw[hk] at h1<;>simp[leastK] at h1<;>omega
    obtain ⟨g,hg⟩:∃ g,f.sub[0]?=some g:=⟨_,qH (by omega)⟩
    have hch:∀ i,childN f i=0:=fun i=>if_neg h17
    rw[hg] at h3
    obtain ⟨k1,k2,k3,k4⟩:=items_wrote s d f g _ hk2 hg (read_wrote s d _ g (hok.2 g (List.mem_of_getElem? hg))) 4200 0 r1 l r h3 (fun _=>by omega)
    have hwd:f.k=16→f.wd≤64:=fun h16=>by
     have:=hok.1.1.2.1
     rw[h16] at this
     have h9:1≤f.wd∧f.wd≤64:=by simpa [wideP,widthK] using this
     exact h9.2
    have h4096:l.length≤4096:=by
     rcases hk2 with hk|hk
     ·have:=k3 hk; omega
     ·have:=k2 hk; have:=hwd hk; omega
    refine ⟨?_,?_,hfin _ _ _ z64 (fun x hx=>(k4 x hx).2)⟩
    ·rw[if_neg h17,if_neg h17,(mustV_some h1).1,k1]; simp[Vl.ls]
    ·refine andT (decide_eq_true h4096) (andT (decide_eq_true rfl) (andT (decide_eq_true rfl) (andT (decide_eq_true fun h=>(by have:=k2 h; rw[Nat.zero_add] at this; exact this)) (andT (decide_eq_true fun h=>absurd h h17) (List.all_eq_true.2 fun j hj=>?_)))))
     have hj:j < l.length:=List.mem_range.1 hj
     have hv:l[j]?=some l[j]:=qH hj
     show (match f.sub[childN f j]?,l[j]? with|some g,some x=>fitD d g x|_,_=>false)=true
     rw[hch,hg,hv]
     exact (k4 l[j] (List.getElem_mem hj)).1
  rw[if_neg h15,if_neg h15,if_neg (by omega)]
  rw[if_neg (by omega),if_neg (by omega),if_neg h18] at h
  split at h
  ·rename_i n hn
   cases h
   obtain ⟨⟨n1,n2⟩,n3⟩:=readN_some hn
   refine ⟨?_,?_,hfin _ _ _ n1 (fun x hx=>by cases hx)⟩
   ·show s.drop q=numT f.k n++_
    rw[n3]
    exact row_drop smallB s q
   ·refine andT (decide_eq_true (Nat.zero_le _)) (andT (decide_eq_true rfl) (andT (decide_eq_true rfl) ?_))
    show (if f.k=2 then decide (n=0∨n=1) else if f.k=11 then true else wholeP f.k && rangedP f.k n)=true
    by_cases k2:f.k=2
    ·rw[if_pos k2] at n2 ⊢; exact decide_eq_true n2
    rw[if_neg k2] at n2 ⊢
    by_cases k11:f.k=11
    ·rw[if_pos k11]
    rw[if_neg k11] at n2 ⊢
    exact andT n2.1 n2.2
  ·cases h
end Go.Proofs.YtilejcofleeeiaaGreatDoor
