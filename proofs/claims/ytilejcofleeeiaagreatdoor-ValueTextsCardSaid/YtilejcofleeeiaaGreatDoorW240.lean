/- YtilejcofleeeiaaGreatDoor: walks, part 240: value.Parse. -/
import Derived.Test.YtilejcofleeeiaaGreatDoorW267
import Derived.Test.YtilejcofleeeiaaGreatDoorW238
import Derived.Defers
import Derived.Recover
namespace Go.Proofs.YtilejcofleeeiaaGreatDoor
open Go Go.K
open Nat renaming reduceEqDiff → qE
open List renaming mem_cons → qM, mem_nil_iff → qI
set_option maxRecDepth 100000
set_option linter.unusedVariables false
set_option linter.unusedSimpArgs false
set_option maxHeartbeats 4000000
theorem semRebase {c:Cfg} {wb:World} {e:Env} {ds:List Deferred} {L:Own} {code:Code} {Q:Post} (h:∀ w,Sy wb L w→SemT c (tag code) (tag (fun x wb' e' ds' L'=>wb'=w∧L'=[]∧Q x wb e' ds' L)) w e ds []):SemT c (tag code) (tag Q) wb e ds L:=by
 intro a w hr hw
 refine wpIn_mono (h w hw a w hr (Sy.refl w)) ?_
 rintro x a' w' ⟨wb',e',ds',L',hr',hw',rfl,rfl,hq⟩
 exact ⟨wb,e',ds',L,hr',hw.frame hw',hq⟩
theorem semT_own {c:Cfg} {wb:World} {e:Env} {ds:List Deferred} {L L':Own} {code:Code} {Q:Post} (h:L=L') (k:SemT c (tag code) (tag Q) wb e ds L'):SemT c (tag code) (tag Q) wb e ds L:=by
 subst h; exact k
abbrev nmC (s:List UInt8) (i:Nat):Prop:=i < s.length∧(48≤(s.getD i 0).toNat∧(s.getD i 0).toNat≤57∨97≤(s.getD i 0).toNat∧(s.getD i 0).toNat≤122∨65≤(s.getD i 0).toNat∧(s.getD i 0).toNat≤90∨(s.getD i 0).toNat=95)
structure ChN (w0:World) (rb b3 b4:Nat) (s:List UInt8) (q:Nat) (i:Nat) (wb:World) (e:Env) (ds:List Deferred) (L:Own):Prop where
 hw:wb=w0
 hds:ds=[]
 o:L=[]
 hi:i≤s.length
 hq:runP nameB s i=q
 h0:e 0=pPs rb
 h3:e 3=.pointer (some ⟨b3,0,none⟩)
 h4:e 4=.pointer (some ⟨b4,0,none⟩)
 h5:e 5=i64 i
structure ChC (w0:World) (rb b3 b4:Nat) (s:List UInt8) (i:Nat) (wb:World) (e:Env) (ds:List Deferred) (L:Own):Prop where
 hw:wb=w0
 hds:ds=[]
 o:L=[]
 h0:e 0=pPs rb
 h3:e 3=.pointer (some ⟨b3,0,none⟩)
 h4:e 4=.pointer (some ⟨b4,0,none⟩)
 h5:e 5=i64 i
 h81:e 81=.bool (decide (nmC s i))
structure ChA (w0:World) (rb b3 b4 q:Nat) (L0:Own) (wb:World) (e:Env) (ds:List Deferred) (L:Own):Prop where
 hw:wb=w0
 hds:ds=[]
 o:L=L0
 h0:e 0=pPs rb
 h3:e 3=.pointer (some ⟨b3,0,none⟩)
 h4:e 4=.pointer (some ⟨b4,0,none⟩)
 h5:e 5=i64 q
structure ChL (w0:World) (rb b3 b4 q:Nat) (L0:Own) (fs:List Fld) (nm:List UInt8) (i:Nat) (wb:World) (e:Env) (ds:List Deferred) (L:Own):Prop where
 hw:wb=w0
 hds:ds=[]
 o:L=L0
 h0:e 0=pPs rb
 h3:e 3=.pointer (some ⟨b3,0,none⟩)
 h4:e 4=.pointer (some ⟨b4,0,none⟩)
 h5:e 5=i64 q
 h6:e 6=i64 i
 hi:i≤fs.length
 no:∀ (j:Nat) (g:Fld),j < i→fs[j]?=some g→g.nm≠nm
theorem choiceR_step (d:Nat) (hP:RvOK d) (wb w:World) (lo rb:Nat) (s:List UInt8) (p:Nat) (M:Own) (ind:Bool) (f:Fld) (a:Option Addr) (c:Nat) (hlo:lo≤wb.heap.size) (hok:okT (d+1) ind f) (hk:f.k=18) (hA:FlAt wb lo f a c) (hs:s.length≤65536) (hp:p≤s.length) (hrb:wb.heap.size≤rb) (hM:∀ b∈M,wb.heap.size≤b.1) (hw:Sy wb (oRd rb s p 0 0::M) w) :
 Calls Tryz.prog 63 #[pPs rb,.agg (f.tcells a c).toArray] w (RdR wb rb s M (choiceV s (readV s d) f.sub p) VlS VfS):=by
 have hmost:f.sub.length≤32:=by
  have h1:=hok.1.1.2.2.2.2
  rw[hk] at h1
  simp[mostK] at h1
  omega
 refine enterB (args:=[pPs rb,.agg (f.tcells a c).toArray]) Tryz.func63 rfl Tryz.ntmps63 (congrArg Array.toList Tryz.results63) (by kernel_rfl) (by simp) hw ?_
 simp (disch:=omega) only[push_cast,qE,Fld.tcells]
 refine newI (fun b3 hb3 hn3=>?_)
 simp (disch:=omega) only[push_cast,qE,Fld.tcells]
 refine newI (fun b4 hb4 hn4=>?_)
 refine sp ?_
 refine lOn Shp.eq mem2 rfl ?_
 refine sp ?_
 obtain ⟨o3,ho3⟩:∃ o,o=(qb1 b3 f a c):=⟨_,rfl⟩
 obtain ⟨o4,ho4⟩:∃ o,o=(qb2 b4):=⟨_,rfl⟩
 have hL0n:∀ (q:Nat) (er:Int) (bd:Nat),∀ b∈o4::o3::oRd rb s q er bd::M,wb.heap.size≤b.1:=fun q er bd b hb=>by
  simp only[qM] at hb
  rcases hb with rfl|rfl|rfl|hb
  ·rw[ho4]; exact hb4
  ·rw[ho3]; exact hb3
  ·exact hrb
  ·exact hM b hb
 refine cutV (ChA wb rb b3 b4 (runP nameB s p) (o4::o3::oRd rb s p 0 0::M)) ?_ ?_
 ·rw[Vb]
  refine sp ?_
  refine semRebase (fun wR hwR=>?_)
  have a0:At wR rb 0 [str s]:=(At.of_own hwR mem2 rfl:At wR rb 0 [str s,i64 p,i64 0,i64 (0:Nat)]).sub 0 [str s] rfl
  refine loopW (G:=Nat) (ChN wR rb b3 b4 s (runP nameB s p)) (fun i=>s.length - i) p _ (fun w hw=>hw) (by kernel_rfl) ⟨rfl,rfl,rfl,hp,rfl,rfl,rfl,rfl,rfl⟩ ?_
  rintro i wR' e ds L ⟨rfl,rfl,rfl,hi,hq,h0,h3,h4,h5⟩
  rw[V_seq,V_seq]
  refine cutV (ChC wR' rb b3 b4 s i) ?_ ?_
  ·have l0:=ldX_eq (P:=Tryz.prog) (t:=9) Shp.eq a0

   rcases Nat.lt_or_ge i s.length with hlt|hge
   ·obtain ⟨C,hC⟩:∃ C:Int,((s.getD i 0).toNat:Int)=C:=⟨_,rfl⟩
    have hcls:(48≤C∧C≤57)∨(97≤C∧C≤122)∨(65≤C∧C≤90)∨C=95∨C < 48∨(57 < C∧C < 65)∨(90 < C∧C < 97∧C≠95)∨122 < C:=by omega
    rcases hcls with h|h|h|h|h|h|h|h
    all_goals
     simp (maxSteps:=1000000) (disch:=omega) only[push_cast,qE,h0,h5,l0,hC,dle_t,dle_f,dlt_t,dlt_f,deq_t,deq_f]
     refine ⟨rfl,rfl,rfl,h0,h3,h4,h5,?_⟩
     first|exact is_t (by omega)|exact is_f (by omega)
   ·simp (maxSteps:=1000000) (disch:=omega) only[push_cast,qE,h0,h5,l0,dle_t,dle_f,dlt_t,dlt_f,deq_t,deq_f]
    exact ⟨rfl,rfl,rfl,h0,h3,h4,h5,is_f (by omega)⟩

  clear h0 h3 h4 h5 e
  rintro wR2 e ds L ⟨rfl,rfl,rfl,h0,h3,h4,h5,h81⟩
  try simp (disch:=omega) only[push_cast,qE,h81]
  rw[Vc]
  simp (disch:=omega) only[push_cast,qE,h81]
  refine cdD (fun hb=>?_) (fun hb=>?_)
  ·have hc:nameB (s.getD i 0)=true:=by unfold nameB; exact decide_eq_true (by omega)
   have hat':=getD_at (s:=s) (i:=i) hb.1
   simp (disch:=omega) only[push_cast,qE,h5]
   rw[Vb]
   simp (disch:=omega) only[push_cast,qE,h5]
   exact ⟨i+1,_,fun w hw=>hw,⟨rfl,rfl,rfl,by omega,by rw[← hq]; exact (runP_step hat' hc).symm,h0,h3,h4,i64_eq (by omega)⟩,by omega⟩
  ·have hi2:runP nameB s i=i:=by
    rcases Nat.lt_or_ge i s.length with h|h
    ·have hc:nameB (s.getD i 0)=false:=by unfold nameB; exact decide_eq_false (by omega)
     exact runP_stop (getD_at h) hc
    ·exact runP_end h
   refine sp ?_
   refine ⟨rfl,rfl,by rw[ho3,ho4],h0,h3,h4,?_⟩
   rw[← hq,hi2]; exact h5
 clear hn3 hn4
 rintro wb e ds L ⟨rfl,rfl,rfl,h0,h3,h4,h5⟩
 obtain ⟨n,hn⟩:∃ n,runP nameB s p=n:=⟨_,rfl⟩
 have hnl:n≤s.length:=by rw[← hn]; exact runP_le hp
 have hpn:p≤n:=by rw[← hn]; exact runP_ge _ _ _
 have hrow:(s.take n).drop p=rowP nameB s p:=by rw[rowP_eq,hn]
 rw[hn] at h5
 have m3:∀ {o:Nat×Obj},(qb1 b3 f a c)∈o4::o3::o::M:=fun {o}=>by first|(rw[← ho3]; exact mem1)|(subst ho3; exact mem1)
 refine sp ?_
 rw[Vb]
 refine sp ?_
 refine loopW (G:=Nat) (ChL wb rb b3 b4 n (o4::o3::oRd rb s p 0 0::M) f.sub (rowP nameB s p)) (fun i=>f.sub.length - i) 0 _ (fun w hw=>hw) (by kernel_rfl) ⟨rfl,rfl,rfl,h0,h3,h4,h5,rfl,Nat.zero_le _,fun j g hj=>absurd hj (Nat.not_lt_zero _)⟩ ?_
 clear h0 h3 h4 h5 e
 rintro i wb e ds L ⟨rfl,rfl,rfl,h0,h3,h4,h5,h6,hi,no⟩
 simp (disch:=omega) only[push_cast,qE,h3,h6]
 refine lOn Shp.eq m3 rfl ?_
 simp (disch:=omega) only[push_cast,qE,h3,h6]
 rw[Vc]
 simp (disch:=omega) only[push_cast,qE,h3,h6]
 refine cdD (fun hlt=>?_) (fun hge=>?_)
 rotate_left
 ·have hch:=choice_no (R:=readV s d) (q:=p) (fs:=f.sub) (fun j g hj=>no j g (by have:=(List.getElem?_eq_some_iff.1 hj).1; omega) hj)
  simp (disch:=omega) only[push_cast,qE,h0]
  refine lOn Shp.eq mem2 rfl ?_
  simp (disch:=omega) only[push_cast,qE,h0]
  refine callV en_30 (callX_own (S:=fun v L'=>v=.tuple #[]∧L'=o4::o3::oRd rb s p 8 p::M) (fun w' hw'=>(failR_ok wb w' rb s p 0 (o4::o3::M) 8 p (hw'.perm (pC))).mono fun e w2 ⟨v,L',k1,k2,k3,k4⟩=>⟨v,_,k1,(by rw[k4] at k2; exact k2.perm (pC)),k3,rfl⟩) (fun v L' hv=>?_))
  obtain ⟨rfl,rfl⟩:=hv
  rw[ho4]
  simp (disch:=omega) only[push_cast,qE,h4]
  refine sXa 0 rfl Siz.eq rfl rfl ?_
  simp (disch:=omega) only[push_cast,qE,h4]
  refine lAg Shp.eq mem0 rfl rfl ?_
  refine sp ?_
  refine fun w' hw'=>RdR.bad (p:=p) zeroA [] hch (by decide) ⟨.mk false 0 [] [],none,0,rfl⟩ (by simp) ?_
  exact hw'.left (A:=[_,_]) (fun b hb=>by
   simp only[qM,qI,or_false] at hb
   rcases hb with rfl|rfl
   ·exact hb4
   ·rw[ho3]; exact hb3)
 obtain ⟨fg,hg⟩:∃ g,f.sub[i]?=some g:=⟨_,List.getElem?_eq_getElem (by omega)⟩
 have hgm:=List.mem_of_getElem? hg
 have hokg:=hok.2 fg hgm
 have hlt2:i < f.sub.length:=(List.getElem?_eq_some_iff.1 hg).1
 obtain ⟨gb,goff,ga,gc,rfl,g1,g2,g3⟩:=hA.get hg
 simp (disch:=omega) only[push_cast,qE,h3,h6]
 rw[Vb]
 simp (disch:=omega) only[push_cast,qE,h3,h6]
 refine drawQT (by kernel_rfl) (by kernel_rfl) mixed (by kernel_rfl) ?_
 simp (disch:=omega) only[push_cast,qE,h0,h3,h5,h6]
 refine lOn Shp.eq m3 rfl ?_
 simp (disch:=omega) only[push_cast,qE,h0,h3,h5,h6]
 refine ldF Shp.eq (g2.sub 0 [str fg.nm] rfl) (out_of (fun b hb=>Nat.lt_of_lt_of_le (Nat.lt_of_lt_of_le g1 hlo) (hL0n p 0 0 b hb))) ?_
 simp (disch:=omega) only[push_cast,qE,h0,h3,h5,h6]
 refine lOn Shp.eq mem2 rfl ?_
 simp (disch:=omega) only[push_cast,qE,h0,h3,h5,h6]
 refine lOn Shp.eq mem2 rfl ?_
 simp (disch:=omega) only[push_cast,qE,h0,h3,h5,h6,Int.toNat_natCast]
 rw[hrow]
 rw[Vc]
 simp (disch:=omega) only[push_cast,qE,h0]
 refine cdD (fun heq=>?_) (fun hne=>?_)
 rotate_left
 ·simp (disch:=omega) only[push_cast,qE,h6]
  refine ⟨i+1,_,fun w hw=>hw,⟨rfl,rfl,rfl,h0,h3,h4,h5,i64_eq (by omega),by omega,fun j g hj hjg=>?_⟩,by omega⟩
  rcases Nat.lt_or_eq_of_le (Nat.le_of_lt_succ hj) with h1|rfl
  ·exact no j g h1 hjg
  ·rw[hg] at hjg
   rw[← Option.some.inj hjg]
   exact hne
 have hch:=choice_yes (R:=readV s d) hg heq no
 rw[hn] at hch
 simp (disch:=omega) only[push_cast,qE,h0,h5]
 refine sXa 2 rfl Siz.eq rfl rfl ?_
 simp (disch:=omega) only[push_cast,qE,h0]
 refine callV en_95 (callX_ru (fun p e b K=>o3::o4::oRd rb s p e b::(K++M)) (fun w' hw'=>mustR_ok wb w' rb s [40] n (o4::o3::M) hs (by simp) hnl hrb ((show Sy wb (o4::o3::oRd rb s n 0 0::M) w' by exact hw').perm (pC))) (fun p e b K w hw=>hw.perm (pC)) (fun q er bd v K hmd0 hK=>?_))
 obtain ⟨rfl,rfl⟩:v=.tuple #[]∧K=[]:=by
  rcases hmd0 with ⟨x,_,_,h,_⟩|⟨_,_,h⟩<;>exact h
 simp (disch:=omega) only[push_cast,qE,h6]
 refine newI (fun b5 hb5 hn5=>?_)
 refine sp ?_
 refine sXa 0 rfl Siz.eq rfl rfl ?_
 have hmd:(er=0∧bd=0∧q≤s.length∧choiceV s (readV s d) f.sub p=(readV s d fg q).and fun v r=>(mustV s [41] r).and fun _ r=>.ok (.mk false i [] [v]) r)∨(er≠0∧choiceV s (readV s d) f.sub p=.no er bd):=by
  rcases hmd0 with ⟨x,hr,hq,_,h1,h2⟩|⟨hr,he,_⟩
  ·exact .inl ⟨h1,h2,hq,by rw[hch,hr,PV.and_ok]⟩
  ·exact .inr ⟨he,by rw[hch,hr,PV.and_no]⟩
 have hmq:er=0→bd=0∧q≤s.length:=fun h=>by
  rcases hmd with ⟨_,h1,h2,_⟩|⟨h1,_⟩
  ·exact ⟨h1,h2⟩
  ·exact absurd h h1
 obtain ⟨x,hx0⟩:∃ x:Rw,x=⟨none,0,0,[]⟩:=⟨_,rfl⟩
 obtain ⟨A,hA0⟩:∃ A:Own,A=[]:=⟨_,rfl⟩
 have hxok:x.OK:=by rw[hx0]; exact .inl ⟨rfl,rfl,rfl⟩
 have hxn:∀ b∈x.own,wb.heap.size≤b.1:=by rw[hx0]; simp[Rw.own]
 have hin:∀ b∈A,wb.heap.size≤b.1:=by rw[hA0]; simp
 have hsm:x.n+1≤1000000:=by rw[hx0]; decide
 have hBx:∀ o:Nat×Obj,wb.heap.size≤o.1→∀ b∈o3::o4::o::M,wb.heap.size≤b.1:=fun o ho b hb=>by
  simp only[qM] at hb
  rcases hb with rfl|rfl|rfl|hb
  ·rw[ho3]; exact hb3
  ·rw[ho4]; exact hb4
  ·exact ho
  ·exact hM b hb
 have hB0n:=hBx (oRd rb s q er bd) hrb
 have hBn:∀ g:GotV,∀ b∈o3::o4::oRd rb s g.p g.er g.bd::M,wb.heap.size≤b.1:=fun g=>hBx _ hrb
 have hM1:∀ b∈x.own++(A++oVn i b5 x.way::o3::o4::M),wb.heap.size≤b.1:=fun b hb=>by
  simp only[List.mem_append,qM] at hb
  rcases hb with hb|hb|rfl|rfl|rfl|hb
  ·exact hxn b hb
  ·exact hin b hb
  ·exact hb5
  ·rw[ho3]; exact hb3
  ·rw[ho4]; exact hb4
  ·exact hM b hb
 refine sp ?_
 refine semT_own (L':=x.own++(A++oVn i b5 x.way::o3::o4::oRd rb s q er bd::M)) (by subst hx0; subst hA0; rfl) ?_
 refine freeIT [0,2,3,4,5,6,7] [1,8,9,10,11,12] [(1,[]),(8,[]),(9,[8]),(10,[1,9]),(11,[10]),(12,[10,11])] [o3] (ZbR wb (o3::o4::oRd rb s q er bd::M) (fun g=>o3::o4::oRd rb s g.p g.er g.bd::M) x A (i) b5 (OutV s d fg q er bd) (fun e=>e 0=pPs rb∧e 3=.pointer (some ⟨b3,0,none⟩)∧e 4=.pointer (some ⟨b4,0,none⟩)∧e 7=.pointer (some ⟨b5,0,none⟩)∧e 6=i64 i∧e 116=.pointer (some ⟨b5,3,none⟩)∧e 118=pPs rb∧e 123=.agg (fg.cells ga gc).toArray) 117 124 125 126 127 1 8 9 10 11 12) (by kernel_rfl) mixed (by kernel_rfl) (by kernel_rfl) (fun D e ds L I=>stab_one (ZbS.base_mem (.head _) (fun _=>.head _) I.o) (I.o.new hB0n hBn hxn hin hb5)) ?_ ?_ (stab_one (List.mem_append_right _ (List.mem_append_right _ (.tail _ (.head _)))) (ZbS.new (s:=0) (e6:=zeroA) (e7:=zeroA) (e8:=zeroA) (Out:=OutV s d fg q er bd) (B:=fun g=>o3::o4::oRd rb s g.p g.er g.bd::M) hB0n hBn hxn hin hb5 rfl)) ?_
 ·intro z hz D e ds L hD hdep I
  obtain ⟨h0,h3,h4,h5,h6,eA,eR,eC⟩:=I.he
  obtain rfl:=I.hds
  simp only[qM,qI,or_false] at hz
  rcases hz with rfl|rfl|rfl|rfl|rfl|rfl
  all_goals simp only[qM,qI,or_false,forall_eq_or_imp,forall_eq,false_implies,implies_true] at hD hdep
  ·simp (disch:=omega) only[push_cast,qE,eA]
   refine lOn Shp.eq (I.v_mem (I.off1 hD)) rfl ?_
   refine sp ?_
   exact ⟨_,fun w hw=>hw,I.s1 hD ⟨us h0,us h3,us h4,us h5,us h6,us eA,us eR,us eC⟩ (by decide) (by decide) (by decide)⟩
  ·obtain rfl:=I.zero hD
   simp (disch:=omega) only[push_cast,qE,eR,eC]
   refine callV en_29 (callX_own (fun w' hw'=>valueR_any hP wb w' lo rb s q er bd (x.own++(A++oVn (i) b5 x.way::o3::o4::M)) _ fg ga gc hlo hokg g3 hs hmq hrb hM1 (hw'.perm (pC))) (fun u L' hu=>?_))
   obtain ⟨g,hg,hgK,rfl,rfl⟩:=hu
   refine sp ?_
   exact ⟨g.K++(x.own++(A++oVn (i) b5 x.way::o3::o4::oRd rb s g.p g.er g.bd::M)),fun w hw=>hw.perm (pC),I.s6 hD hg hgK ⟨us h0,us h3,us h4,us h5,us h6,us eA,us eR,us eC⟩ (by decide) (by decide) (by decide)⟩
  ·obtain ⟨g,hg,hgK,e6,hL7⟩:=I.call hdep hD
   simp (disch:=omega) only[push_cast,qE,e6,Vl.cells]
   refine bs_27_1 (newI fun b7 hb7 hn7=>?_)
   refine sp ?_
   exact ⟨_,fun w hw=>hw,I.s7 hdep hD hg hgK hb7 hL7 ⟨us h0,us h3,us h4,us h5,us h6,us eA,us eR,us eC⟩ (by decide) (by decide) (by decide)⟩
  ·have e1:=I.d1 hdep.1
   simp (disch:=omega) only[push_cast,qE,e1]
   refine ZbS.app (I.row hdep.2 hD) hxok hxn hsm (fun x' L' L'' hsub hz=>?_)
   refine sp ?_
   exact ⟨L'',hsub,I.s8 hdep.1 hdep.2 hD hz ⟨us h0,us h3,us h4,us h5,us h6,us eA,us eR,us eC⟩ (by decide) (by decide) (by decide)⟩
  ·simp (disch:=omega) only[push_cast,qE,h5]
   exact ⟨_,fun w hw=>hw,I.s9 ⟨us h0,us h3,us h4,us h5,us h6,us eA,us eR,us eC⟩ (by decide) (by decide)⟩
  ·obtain ⟨g,x',hg,hgK,r3,r4,r5,r6,e8,rfl⟩:=I.app hdep.1 hD
   have eS:=I.d9 hdep.2
   simp (disch:=omega) only[push_cast,qE,eS,e8,oVn]
   refine stX 0 rfl Siz.eq rfl rfl (by simp[Value.oneCell',Rw.way]) (by simp) ?_
   refine sp ?_
   exact ⟨_,fun w hw=>hw,I.s10 hdep.1 hg hgK r3 r4 r5 r6 (by decide) (by decide)⟩
 ·intro D e ds L hD I
  obtain ⟨h0,h3,h4,h5,h6,eA,eR,eC⟩:=I.he
  obtain rfl:=I.hds
  obtain ⟨g,x',hg2,hgK,r3,r4,r5,r6,rfl⟩:=I.done (hD 12 (by simp))
  have hL7:∀ b∈o3::o4::oRd rb s g.p g.er g.bd::M,wb.heap.size≤b.1:=hBn g
  subst hA0
  subst hx0
  have hx1:x'.n=1:=r4
  have hXn:∀ b∈x'.own++g.K,wb.heap.size≤b.1:=fun b hb=>(List.mem_append.1 hb).elim (r6 b) (hgK b)
  obtain ⟨X,hX⟩:∃ X,x'.own++g.K=X:=⟨_,rfl⟩
  have fin:∀ (q1:Nat) (er1:Int) (bd1:Nat) (o:Obj) (w':World),Sy wb ((b4,o)::oRd rb s q1 er1 bd1::oVn i b5 x'.way::o3::((x'.own++g.K)++M)) w'→Sy wb (oRd rb s q1 er1 bd1::((x'.own++g.K)++M)) w':=fun q1 er1 bd1 o w' hw'=>by
   have h1:Sy wb ([(b4,o),oVn i b5 x'.way,o3]++(oRd rb s q1 er1 bd1::((x'.own++g.K)++M))) w':=hw'.perm (pC)
   exact h1.left (fun b hb=>by
    simp only[qM,qI,or_false] at hb
    rcases hb with rfl|rfl|rfl
    ·exact hb4
    ·exact hb5
    ·rw[ho3]; exact hb3)
  have hVf:VfS (.agg #[.bool false,i64 i,str [],x'.way]) (x'.own++g.K):=⟨.mk false i [] [.mk false 0 [] []],x'.at_,x'.c,way_cells (by rw[hx1]; rfl)⟩
  have out:∀ (q1:Nat) (er1:Int) (bd1:Nat) {K:Own→Prop},K ((b4,Obj.cells #[.bool false,i64 i,str [],x'.way] 29 (0,0))::oRd rb s q1 er1 bd1::oVn i b5 x'.way::o3::((x'.own++g.K)++M))→StoreX Tryz.prog 29 (.pointer (some ⟨b4,0,none⟩)) (.agg #[.bool false,i64 i,str [],x'.way]) wb (oRd rb s q1 er1 bd1::oVn i b5 x'.way::o3::o4::((x'.own++g.K)++M)) (tag K):=fun q1 er1 bd1 {K} hK=>by
   refine storeX_weak (L':=(qb2 b4)::oRd rb s q1 er1 bd1::oVn i b5 x'.way::o3::((x'.own++g.K)++M)) (fun w hw=>by first|(rw[← ho4]; exact hw.perm (pC))|(subst ho4; exact hw.perm (pC))) (stX 0 rfl Siz.eq rfl rfl (by simp[Value.oneCell',Rw.way]) (by simp) ?_)
   exact hK
  have hwk:∀ w',Sy wb (oVn i b5 x'.way::(x'.own++([]++(g.K++(o3::o4::oRd rb s g.p g.er g.bd::M))))) w'→Sy wb (oRd rb s g.p g.er g.bd::(oVn i b5 x'.way::o3::o4::((x'.own++g.K)++M))) w':=fun w' hw'=>hw'.perm (pC)
  have hM2:∀ b∈oVn i b5 x'.way::o3::o4::((x'.own++g.K)++M),wb.heap.size≤b.1:=fun b hb=>by
   simp only[qM] at hb
   rcases hb with rfl|rfl|rfl|hb
   ·exact hb5
   ·rw[ho3]; exact hb3
   ·rw[ho4]; exact hb4
   ·exact (List.mem_append.1 hb).elim (hXn b) (hM b)
  simp (disch:=omega) only[push_cast,qE,h0]
  have after:∀ (q2:Nat) (er2:Int) (bd2:Nat),(∀ w',Sy wb (oRd rb s q2 er2 bd2::((x'.own++g.K)++M)) w'→RdR wb rb s M (choiceV s (readV s d) f.sub p) VlS VfS (.returned (.agg #[.bool false,i64 i,str [],x'.way])) w')→(∀ w',Sy wb ((b4,Obj.cells #[.bool false,i64 i,str [],x'.way] 29 (0,0))::oRd rb s q2 er2 bd2::oVn i b5 x'.way::o3::((x'.own++g.K)++M)) w'→RdR wb rb s M (choiceV s (readV s d) f.sub p) VlS VfS (.returned (.agg #[.bool false,i64 i,str [],x'.way])) w'):=fun q2 er2 bd2 h w' hw'=>h w' (fin q2 er2 bd2 _ w' hw')
  by_cases hge:g.er=0
  ·have hgd:g.bd=0∧g.p≤s.length∧er=0∧readV s d fg q=.ok g.y g.p∧∃ its,ZeV g.y its g.a2 g.c2∧g.K=ownR its:=by
    by_cases he:er=0
    ·rcases hg2.1 he with ⟨k1,k2,k3,k4,k5⟩|⟨k1,_⟩
     ·exact ⟨k2,k3,he,k4,k5⟩
     ·exact absurd hge k1
    ·have:=(hg2.2 he).1
     rw[hge] at this
     exact absurd this.symm he
   obtain ⟨k2,k3,he0,k4,its2,k5,k6⟩:=hgd
   refine callV en_95 (callX_ru (fun p e b K=>oRd rb s p e b::(K++(oVn i b5 x'.way::o3::o4::((x'.own++g.K)++M)))) (fun w' hw'=>mustR_ok wb w' rb s [41] g.p _ hs (by simp) k3 hrb (by have h9:=hwk w' hw'; rw[hge,k2] at h9; exact h9)) (fun _ _ _ _ _ h=>h) (fun q2 er2 bd2 v K hmd2 hK=>?_))
   obtain ⟨rfl,rfl⟩:v=.tuple #[]∧K=[]:=by
    rcases hmd2 with ⟨x,_,_,h,_⟩|⟨_,_,h⟩<;>exact h
   simp (disch:=omega) only[push_cast,qE,h5]
   refine lAg Shp.eq (.tail _ (.head _)) rfl rfl ?_
   simp (disch:=omega) only[push_cast,qE,h4]
   refine out q2 er2 bd2 ?_
   simp (disch:=omega) only[push_cast,qE,h4]
   refine lAg Shp.eq mem0 rfl rfl ?_
   refine sp ?_
   refine after q2 er2 bd2 (fun w' hw'=>?_)
   rcases hmd with ⟨_,_,_,hr⟩|⟨her,_⟩
   ·rcases hmd2 with ⟨y,hr1,hq1,_,rfl,rfl⟩|⟨hr1,he,_⟩
    ·exact RdR.good (x:=.mk false i [] [g.y]) (q:=q2) _ (x'.own++g.K) (by rw[hr,k4,PV.and_ok,hr1,PV.and_ok]) hq1 ⟨x'::its2,x'.at_,x'.c,zeV_list (by simp) (by omega) r3 (by rw[hx1]; rfl) (by rw[r5]; simpa using ZeK.single k5),way_cells (by rw[hx1]; rfl),by rw[ownR_cons,k6]⟩ hXn hw'
    ·exact RdR.bad _ (x'.own++g.K) (by rw[hr,k4,PV.and_ok,hr1,PV.and_no]) he hVf hXn hw'
   ·exact absurd he0 her
  ·refine callV en_95 (callX_weak (L':=oRd rb s g.p g.er g.bd::(oVn i b5 x'.way::o3::o4::((x'.own++g.K)++M))) hwk (cIs (fun w' hw'=>mustR_no w' rb s [41] g.p g.bd g.er hge (At.of_own hw' mem0 rfl)) ?_))
   simp (disch:=omega) only[push_cast,qE,h5]
   refine lAg Shp.eq (.tail _ (.head _)) rfl rfl ?_
   simp (disch:=omega) only[push_cast,qE,h4]
   refine out g.p g.er g.bd ?_
   simp (disch:=omega) only[push_cast,qE,h4]
   refine lAg Shp.eq mem0 rfl rfl ?_
   refine sp ?_
   refine after g.p g.er g.bd (fun w' hw'=>?_)
   refine RdR.bad _ (x'.own++g.K) ?_ hge hVf hXn hw'
   rcases hmd with ⟨he0,_,_,hr⟩|⟨her,hr⟩
   ·rcases hg2.1 he0 with ⟨k1,_⟩|⟨_,k2⟩
    ·exact absurd k1 hge
    ·rw[hr,k2,PV.and_no]
   ·obtain ⟨k1,k2⟩:=hg2.2 her
    rw[k1,k2]; exact hr
 ·simp (disch:=omega) only[push_cast,qE,h0,h3,h5,h6]
  refine lOn Shp.eq (by rw[ho3]; exact .head _) rfl ?_
  simp (disch:=omega) only[push_cast,qE,h0,h3,h5,h6]
  refine ldAggF Shp.eq g2 rfl (out_of (fun b hb=>Nat.lt_of_lt_of_le (Nat.lt_of_lt_of_le g1 hlo) (hB0n b (by rw[List.mem_singleton.1 hb]; exact .head _)))) ?_
  simp (disch:=omega) only[push_cast,qE,h0,h3,h5,h6,Fld.cells]
  exact ⟨rfl,⟨h0,h3,h4,rfl,h6,rfl,rfl,rfl⟩,(fun h=>by simp at h),(by simp),rfl,(fun h=>by simp at h)⟩
end Go.Proofs.YtilejcofleeeiaaGreatDoor
namespace Go.K
open Go
open Nat renaming reduceEqDiff → qE
open List renaming mem_cons → qM, mem_nil_iff → qI
set_option linter.unusedVariables false
set_option linter.unusedSimpArgs false
variable {P:Program} {wb:World} {L:Own}
def endC (Q:World→Own→Prop):Post
 | .ret,wb,e,ds,L | .normal,wb,e,ds,L=>ds=[]∧Q wb L
 | _,_,_,_,_=>False
@[push_cast] theorem endC_ret {Q:World→Own→Prop} {e:Env} {ds:List Deferred}:endC Q .ret wb e ds L=(ds=[]∧Q wb L):=(rfl)
@[push_cast] theorem endC_normal {Q:World→Own→Prop} {e:Env} {ds:List Deferred}:endC Q .normal wb e ds L=(ds=[]∧Q wb L):=(rfl)
theorem callsD_rec {f:FuncId} {fn:Func} {rest:Code} {id n:Nat} {ops:Array Oper} {o0 o1:Oper} {t0 t1:Nat} {args:List Value} {u u2:FrameMode} {v:Value} {w:World} {R:Ending→FrameMode→World→Prop}
 (hf:P.funcs[f]?=some fn) (hb:fn.body=some (.seq (.region id ops false) rest)) (hn:fn.ntmps=n) (hrs:fn.results=#[]) (hops:ops=#[o0,o1])
 (hg0:o0.guard=none) (hg1:o1.guard=none) (hr0:∀ ev w,(execOp ev o0).run P w=.ok .recover w) (hr1:∀ ev w,(execOp ev o1).run P w=.ok (.value (ev (.tmp t0))) w)
 (hd0:o0.dst=some t0) (hd1:o1.dst=some t1) (ht0:t0 < n) (ht1:t1 < n) (hsz:args.length≤n) (hok:okCode n rest=true)
 (hu:(u=.returning∧v=.nilIface∧u2=.returning)∨∃ x older,v=x∧u=.panicking ({ v:=v,recovered:=false }::older)∧u2=.panicking ({ v:=v,recovered:=true }::older))
 (hw:Sy wb L w)
 (h:VT ⟨P,n,none⟩ (tag rest) (tag (endC (fun wb L=>∀ w,Sy wb L w→R (.returned (.tuple #[])) u2 w))) wb (upd (upd (env0 args) t0 v) t1 v) [] L):CallsD P f args.toArray u w R:=by
 subst hn hops
 refine callsD_of_wpS hf hb fun c₀ cs hc=>?_
 apply wpS_seq
 apply wpS_region
 have hw0:∀ y,Region.wanted o0 y=true:=fun y=>by simp[Region.wanted,hg0]
 have hw1:∀ y,Region.wanted o1 y=true:=fun y=>by simp[Region.wanted,hg1]
 have r0:=rep0 (n:=fn.ntmps) (args:=args) hsz
 have r1:=r0.put (ds':=[]) (some t0) (fun k hk=>by cases hk; exact ht0) v
 have r2:=r1.put (ds':=[]) (some t1) (fun k hk=>by cases hk; exact ht1) v
 have hev:∀ (a:Act) (e:Env),Rep fn.ntmps a (puto e (some t0) v) []→a.eval (.tmp t0)=v:=fun a e hr=>by rw[hr.eval]; show (upd e t0 v) t0=v; simp[upd]
 have main:∀ a,Rep fn.ntmps a (upd (upd (env0 args) t0 v) t1 v) []→rest.wpS P (bodyPostS P fn c₀ cs R) a ({ c₀ with mode:=u2 }::cs) w:=fun a hr=>by
  refine wpS_of_wp ((wpIn_wide (n:=0)).1 (wpIn_mono (V_sound (c:=⟨P,fn.ntmps,none⟩) rest _ wb _ [] L hok h a w hr hw) ?_))
  rintro x a' w' ⟨wb',e',ds',L',hr',hw',hq⟩
  cases x with
  | normal=>exact ⟨hr'.defers.trans hq.1,u2,rfl,.tuple #[],by simp[results,hrs],hq.2 w' hw'⟩
  | ret=>exact ⟨hr'.defers.trans hq.1,u2,rfl,.tuple #[],by simp[results,hrs],hq.2 w' hw'⟩
  | panic ch=>exact hq.elim
  | exit id=>exact hq.elim
  | goto l=>exact hq.elim
  | outgrown=>exact hq.elim
 have hrange:List.range (#[o0,o1]:Array Oper).size=[0,1]:=rfl
 rw[hrange]
 rcases hu with ⟨rfl,rfl,rfl⟩|⟨x,older,rfl,rfl,rfl⟩
 ·have hc0:({ c₀ with mode:=FrameMode.returning }:Frame)=c₀:=by cases c₀; simp_all
  rw[hc0] at main
  simp only[wpOpsS,hw0,hw1,if_true,hr0,hr1,recoverD,hc,Oper.upon,hd0,hd1,List.getElem?_toArray,List.getElem?_cons_zero,List.getElem?_cons_succ]
  simp only[Exit.thenS]
  refine main _ ?_
  rw[hev _ _ r1]
  exact r2
 ·simp only[wpOpsS,hw0,hw1,if_true,hr0,hr1,recoverD,hc,Oper.upon,hd0,hd1,List.getElem?_toArray,List.getElem?_cons_zero,List.getElem?_cons_succ]
  simp only[Exit.thenS]
  refine main _ ?_
  rw[hev _ _ r1]
  exact r2
end Go.K
namespace Go.Proofs.YtilejcofleeeiaaGreatDoor
open Go Go.K
open Nat renaming reduceEqDiff → qE
open List renaming mem_cons → qM, mem_nil_iff → qI
set_option maxRecDepth 100000
set_option linter.unusedVariables false
set_option linter.unusedSimpArgs false
set_option maxHeartbeats 4000000
abbrev oEr (b:Nat) (e:Int):Nat×Obj:=(b,Obj.cells #[i64 e] 30 (0,0))
abbrev oIn (b:Nat) (q:Int):Nat×Obj:=(qb4 b q)
abbrev oWr (b:Nat) (e q:Int):Nat×Obj:=(b,Obj.cells #[i64 e,i64 q] 70 (0,0))
abbrev oV0 (b:Nat):Nat×Obj:=(qb2 b)
abbrev oVx (b:Nat) (nu:Bool) (n:Int) (tx:List UInt8) (va:Option Addr) (k vc:Nat):Nat×Obj:=(qb3 b nu n tx va k vc)
theorem valueC_idle (wb w:World) (L:Own) (hw:Sy wb L w) (v1 v2 v3:Value) :
 CallsD Tryz.prog 31 #[v1,v2,v3] .returning w fun e' u' w'=>e'=.returned (.tuple #[])∧u'=.returning∧Sy wb L w':=by
 refine callsD_rec (args:=[v1,v2,v3]) Tryz.func31 rfl Tryz.ntmps31 Tryz.results31 rfl rfl rfl (fun ev w=>rfl) (fun ev w=>rfl) rfl rfl (by omega) (by omega) (by simp) (by kernel_rfl) (.inl ⟨rfl,rfl,rfl⟩) hw ?_
 refine sp ?_
 refine Eq.mpr (px (v:=.bool false) (fun w=>by rfl) _) ?_
 refine sp ?_
 rw[Vc]
 refine sp ?_
 exact fun w hw=>hw
theorem valueC_back (wb w:World) (M:Own) (b1 b2 b3:Nat) (nu:Bool) (n:Int) (tx:List UInt8) (va:Option Addr) (k vc:Nat) (e q0 er:Int) (q:Nat) (h1:wb.heap.size≤b1) (h2:wb.heap.size≤b2) (h3:wb.heap.size≤b3) (hM:∀ b∈M,wb.heap.size≤b.1) (hw:Sy wb (oVx b1 nu n tx va k vc::oEr b2 e::oIn b3 q0::M) w) :
 CallsD Tryz.prog 31 #[.pointer (some ⟨b1,0,none⟩),.pointer (some ⟨b2,0,none⟩),.pointer (some ⟨b3,0,none⟩)] (.panicking [wrongE er q]) w fun e' u' w'=>e'=.returned (.tuple #[])∧settle u'=.returning∧∃ b4,wb.heap.size≤b4∧Sy wb (oWr b4 er q::oV0 b1::oEr b2 er::oIn b3 q::M) w':=by
 refine callsD_rec (args:=[.pointer (some ⟨b1,0,none⟩),.pointer (some ⟨b2,0,none⟩),.pointer (some ⟨b3,0,none⟩)]) Tryz.func31 rfl Tryz.ntmps31 Tryz.results31 rfl rfl rfl (fun ev w=>rfl) (fun ev w=>rfl) rfl rfl (by omega) (by omega) (by simp) (by kernel_rfl) (.inr ⟨_,_,rfl,rfl,rfl⟩) hw ?_
 refine sp ?_
 refine Eq.mpr (px (v:=.bool true) (fun w=>by rfl) _) ?_
 refine sp ?_
 rw[Vc]
 refine sp ?_
 refine Eq.mpr (px (v:=.tuple #[.agg #[i64 er,i64 q],.bool true]) (fun w=>by rfl) _) ?_
 refine sp ?_
 refine newI (fun b4 hb4 hn4=>?_)
 refine sp ?_
 refine sXa 0 rfl Siz.eq rfl rfl ?_
 refine sp ?_
 rw[Vc]
 refine sp ?_
 refine cdB (fun h=>by cases h) (fun _=>?_)
 refine sp ?_
 have hst:∀ (x:Nat×Obj) (e q0:Int),x.1=b1→Stab wb (oWr b4 er q::x::oEr b2 e::oIn b3 q0::M) [oWr b4 er q]:=fun x e q0 hx=>Stab.of (.cons_cons _ (List.nil_sublist _)) (fun b hb=>by
  simp only[qM] at hb
  rcases hb with rfl|rfl|rfl|rfl|hb
  ·exact hb4
  ·rw[hx]; exact h1
  ·exact h2
  ·exact h3
  ·exact hM b hb)
 refine freeT [0,1,2,3,4] [5,6,7] [oWr b4 er q] (by kernel_rfl) mixed (by kernel_rfl) (hst _ _ _ rfl) ?_
 refine sp ?_
 refine lOn Shp.eq mem0 rfl ?_
 refine sp ?_
 refine lOn Shp.eq mem0 rfl ?_
 refine sp ?_
 refine sXa 1 rfl Siz.eq rfl rfl ?_
 refine sp ?_
 refine ⟨hst _ _ _ rfl,sXa 2 rfl Siz.eq rfl rfl ?_⟩
 refine sp ?_
 refine ⟨hst _ _ _ rfl,sXa 3 rfl Siz.eq rfl rfl ?_⟩
 refine sp ?_
 exact ⟨hst _ _ _ rfl,fun w hw=>⟨rfl,b4,hb4,hw⟩⟩
def PvV (r:Vl×Int×Nat) (v:Value) (M:Own):Prop:=∃ its a c,ZeV r.1 its a c∧v=.tuple #[.agg (r.1.cells a c).toArray,i64 r.2.1,i64 r.2.2]∧M=ownR its
theorem PvV.none (e:Int) (q:Nat):PvV (.mk false 0 [] [],e,q) (.tuple #[.agg #[.bool false,i64 0,str [],.slice none 0 0],i64 e,i64 q]) []:=⟨_,_,_,ZeV.leafV (by simp) (by omega),rfl,rfl⟩
theorem parseV_walk (w:World) (hs:SaysAt w) (lo:Nat) (hTb:TabsAt w) (hl:LibV w) (hlo:lo≤w.heap.size) (f:Fld) (a:Option Addr) (c:Nat) (hA:FlAt w lo f a c) (hfn:f.nm.length≤9223372036854775807) (t:List UInt8) (ht:t.length≤9223372036854775807) :
 Calls Tryz.prog 12 #[.agg (f.cells a c).toArray,str t] w (RetsN w (PvV (parseVP f t))):=by
 refine enterD (args:=[.agg (f.cells a c).toArray,str t]) Tryz.func12 rfl Tryz.ntmps12 (congrArg Array.toList Tryz.results12) (by kernel_rfl) (by simp) (Sy.refl w) ?_
 simp (disch:=omega) only[push_cast,qE,Fld.cells]
 refine newI (fun b2 hb2 hn2=>?_)
 simp (disch:=omega) only[push_cast,qE,Fld.cells]
 refine newI (fun b4 hb4 hn4=>?_)
 simp (disch:=omega) only[push_cast,qE,Fld.cells]
 refine newI (fun b5 hb5 hn5=>?_)
 simp (disch:=omega) only[push_cast,qE,Fld.cells]
 refine newI (fun b6 hb6 hn6=>?_)
 simp (disch:=omega) only[push_cast,qE,Fld.cells]
 obtain ⟨o2,ho2⟩:∃ o,o=(qb0 b2 f a c):=⟨_,rfl⟩
 have n2:w.heap.size≤o2.1:=by rw[ho2]; exact hb2
 have hL:∀ x y z:Obj,∀ p∈[(b6,x),(b5,y),(b4,z),o2],w.heap.size≤p.1:=fun x y z p hp=>by
  simp only[qM,qI,or_false] at hp
  rcases hp with rfl|rfl|rfl|rfl
  ·exact hb6
  ·exact hb5
  ·exact hb4
  ·exact n2
 have bye:∀ {x y z:Obj} {w':World} {e:Int},parseVP f t=(.mk false 0 [] [],e,0)→Sy w [(b6,x),(b5,y),(b4,z),o2] w'→RetsN w (PvV (parseVP f t)) (.returned (.tuple #[.agg #[.bool false,i64 0,str [],.slice none 0 0],i64 e,i64 0])) w':=fun {x y z w' e} h hw'=>by
  rw[h]
  exact ⟨_,[],rfl,hw'.end (hL _ _ _),by simp,PvV.none e 0⟩
 rw[Vb]
 refine sp ?_
 refine lAg Shp.eq mem3 rfl rfl ?_
 refine sp ?_
 refine callV en_21 (cIs (fun w' hw'=>may_walk w' (hs.mono hw' (by first|(rw[← ho2]; exact hL _ _ _)|(have z:=hL; rw[ho2] at z; exact z _ _ _))) lo (Nat.le_trans hlo hw'.size) f a c (hA.sy hlo hw' (by first|(rw[← ho2]; exact hL _ _ _)|(have z:=hL; rw[ho2] at z; exact z _ _ _))) hfn) ?_)
 refine sp ?_
 rw[Vc]
 refine sp ?_
 refine cdB (fun hm=>?_) (fun hm=>?_)
 ·rw[Bool.not_eq_true'] at hm
  refine sp ?_
  refine sXa 2 rfl Siz.eq rfl rfl ?_
  refine sp ?_
  refine sXa 1 rfl Siz.eq rfl rfl ?_
  refine sp ?_
  refine sXa 0 rfl Siz.eq rfl rfl ?_
  refine sp ?_
  refine .inl (lAg Shp.eq mem2 rfl rfl ?_)
  refine sp ?_
  refine lOn Shp.eq mem1 rfl ?_
  refine sp ?_
  refine lOn Shp.eq mem0 rfl ?_
  refine sp ?_
  exact fun w' hw'=>bye (e:=5) (by unfold parseVP; rw[if_pos hm]) (by rw[ho2]; exact hw')
 rw[Bool.not_eq_false'] at hm
 refine sp ?_
 rw[Vc]
 refine sp ?_
 refine cdD (fun hbig=>?_) (fun hsm=>?_)
 ·refine sp ?_
  refine sXa 2 rfl Siz.eq rfl rfl ?_
  refine sp ?_
  refine sXa 1 rfl Siz.eq rfl rfl ?_
  refine sp ?_
  refine sXa 0 rfl Siz.eq rfl rfl ?_
  refine sp ?_
  refine .inl (lAg Shp.eq mem2 rfl rfl ?_)
  refine sp ?_
  refine lOn Shp.eq mem1 rfl ?_
  refine sp ?_
  refine lOn Shp.eq mem0 rfl ?_
  refine sp ?_
  exact fun w' hw'=>bye (e:=4) (by unfold parseVP; rw[if_neg (by rw[hm]; decide),if_pos (by omega)]) (by rw[ho2]; exact hw')
 have hpv:parseVP f t=match readV t 64 f 0 with | .no e q=>(.mk false 0 [] [],e,q) | .ok v q=>if q < t.length then (.mk false 0 [] [],8,q) else (v,0,0):=by
  unfold parseVP
  rw[if_neg (by rw[hm]; decide),if_neg (by omega)]
  rfl
 refine sp ?_
 refine ⟨rfl,_,fun w=>rfl,?_⟩
 refine sp ?_
 refine newI (fun b7 hb7 hn7=>?_)
 refine sp ?_
 refine lAg Shp.eq (.tail _ mem3) rfl rfl ?_
 refine sp ?_
 have hM4:∀ b∈[oIn b6 0,oEr b5 0,oV0 b4,o2],w.heap.size≤b.1:=fun b hb=>by
  simp only[qM,qI,or_false] at hb
  rcases hb with rfl|rfl|rfl|rfl
  ·exact hb6
  ·exact hb5
  ·exact hb4
  ·exact n2
 have back:∀ {K:Own} {nu:Bool} {n:Int} {tx:List UInt8} {va:Option Addr} {k vc:Nat} {er:Int} {q:Nat} {w':World},(∀ b∈K,w.heap.size≤b.1)→Sy w (K++[oIn b6 0,oEr b5 0,oVx b4 nu n tx va k vc,o2]) w'→CallsD Tryz.prog 31 #[.pointer (some ⟨b4,0,none⟩),.pointer (some ⟨b5,0,none⟩),.pointer (some ⟨b6,0,none⟩)] (.panicking [wrongE er q]) w' fun e' u' w2=>e'=.returned (.tuple #[])∧settle u'=.returning∧∃ L2,(∀ b∈L2,w.heap.size≤b.1)∧Sy w (oV0 b4::oEr b5 er::oIn b6 q::L2) w2:=fun {K nu n tx va k vc er q w'} hK hw'=>by
  refine (valueC_back w w' (K++[o2]) b4 b5 b6 nu n tx va k vc 0 0 er q hb4 hb5 hb6 (fun b hb=>?_) (hw'.perm (pC))).mono ?_
  ·rcases List.mem_append.1 hb with hb|hb
   ·exact hK b hb
   ·rw[List.mem_singleton.1 hb]; exact n2
  ·rintro e1 u1 w1 ⟨h1,h2,b9,hb9,hw1⟩
   refine ⟨h1,h2,oWr b9 er q::(K++[o2]),fun b hb=>?_,hw1.perm (pC)⟩
   rcases List.mem_cons.1 hb with rfl|hb
   ·exact hb9
   ·rcases List.mem_append.1 hb with hb|hb
    ·exact hK b hb
    ·rw[List.mem_singleton.1 hb]; exact n2
 have gone:∀ {er:Int} {q:Nat} {L2:Own} {w':World},parseVP f t=(.mk false 0 [] [],er,q)→(∀ b∈L2,w.heap.size≤b.1)→Sy w (oV0 b4::oEr b5 er::oIn b6 q::L2) w'→RetsN w (PvV (parseVP f t)) (.returned (.tuple #[.agg #[.bool false,i64 0,str [],.slice none 0 0],i64 er,i64 q])) w':=fun {er q L2 w'} h hL2 hw'=>by
  rw[h]
  refine ⟨_,[],rfl,hw'.end (fun b hb=>?_),by simp,PvV.none er q⟩
  simp only[qM] at hb
  rcases hb with rfl|rfl|rfl|hb
  ·exact hb4
  ·exact hb5
  ·exact hb6
  ·exact hL2 b hb
 refine callV en_32 (callX_weak (L':=oPs b7 t 0::[oIn b6 0,oEr b5 0,oV0 b4,o2]) (fun w hw=>by rw[ho2]; exact hw) (callX_pw (M:=[oIn b6 0,oEr b5 0,oV0 b4,o2]) (fun q K=>oV0 b4::oEr b5 0::oIn b6 0::oPs b7 t q::(K++[o2])) (fun w' hw'=>value_all 64 w w' lo b7 t 0 [oIn b6 0,oEr b5 0,oV0 b4,o2] false f a c hl hTb hlo (may_okT hm) hA (by omega) (Nat.zero_le _) hb7 hM4 hw') (fun q K w hw=>hw.perm (pC)) (fun v q u K hr hq hS hK=>?_) (fun er q K hr hK=>?_)))
 rotate_left
 ·rw[hr] at hpv
  refine sp ?_
  refine .inr ⟨_,_,rfl,en_31,fun w' hw'=>(back (nu:=false) (n:=0) (tx:=[]) (va:=none) (k:=0) (vc:=0) hK hw').mono ?_⟩
  rintro e1 u1 w1 ⟨rfl,hu,L2,hL2,hw1⟩
  refine ⟨rfl,hu,_,hw1,?_⟩
  try simp (disch:=omega) only[push_cast,qE]
  refine lAg Shp.eq mem0 rfl rfl ?_
  refine sp ?_
  refine lOn Shp.eq mem1 rfl ?_
  refine sp ?_
  refine lOn Shp.eq mem2 rfl ?_
  refine sp ?_
  exact fun w2 hw2=>gone hpv hL2 hw2
 obtain ⟨its2,a2,c2,hv,rfl,rfl⟩:=hS
 rw[hr] at hpv
 simp only at hpv
 simp (disch:=omega) only[push_cast,qE,Vl.cells]
 refine sXa 0 rfl Siz.eq rfl rfl ?_
 refine sp ?_
 refine lOn Shp.eq mem3 rfl ?_
 refine sp ?_
 rw[Vc]
 refine sp ?_
 refine cdD (fun hlt=>?_) (fun hge=>?_)
 ·rw[if_pos (by omega)] at hpv
  refine sp ?_
  refine lOn Shp.eq mem3 rfl ?_
  refine sp ?_
  refine callV en_33 (callX_fail q ?_)
  refine sp ?_
  refine .inr ⟨_,_,rfl,en_31,fun w' hw'=>(back (K:=oPs b7 t q::ownR its2) (nu:=v.nu) (n:=v.num) (tx:=v.tx) (va:=a2) (k:=v.ls.length) (vc:=c2) (fun b hb=>?_) ((show Sy w (oVx b4 v.nu v.num v.tx a2 v.ls.length c2::oEr b5 0::oIn b6 0::oPs b7 t q::(ownR its2++[o2])) w' from hw').perm (pC))).mono ?_⟩
  ·rcases List.mem_cons.1 hb with rfl|hb
   ·exact hb7
   ·exact hK b hb
  rintro e1 u1 w1 ⟨rfl,hu,L2,hL2,hw1⟩
  refine ⟨rfl,hu,_,hw1,?_⟩
  try simp (disch:=omega) only[push_cast,qE]
  refine lAg Shp.eq mem0 rfl rfl ?_
  refine sp ?_
  refine lOn Shp.eq mem1 rfl ?_
  refine sp ?_
  refine lOn Shp.eq mem2 rfl ?_
  refine sp ?_
  exact fun w2 hw2=>gone hpv hL2 hw2
 rw[if_neg (by omega)] at hpv
 refine sp ?_
 refine lAg Shp.eq mem0 rfl rfl ?_
 refine sp ?_
 refine sXa 0 rfl Siz.eq rfl rfl ?_
 refine sp ?_
 refine sXa 1 rfl Siz.eq rfl rfl ?_
 refine sp ?_
 refine sXa 2 rfl Siz.eq rfl rfl ?_
 refine sp ?_
 refine .inr ⟨_,_,rfl,en_31,fun w' hw'=>(valueC_idle w w' _ hw' _ _ _).mono ?_⟩
 rintro e1 u1 w1 ⟨rfl,rfl,hw1⟩
 refine ⟨rfl,rfl,_,hw1,?_⟩
 try simp (disch:=omega) only[push_cast,qE]
 refine lAg Shp.eq mem0 rfl rfl ?_
 refine sp ?_
 refine lOn Shp.eq mem1 rfl ?_
 refine sp ?_
 refine lOn Shp.eq mem2 rfl ?_
 refine sp ?_
 intro w2 hw2
 rw[hpv]
 refine ⟨_,ownR its2,rfl,?_,hK,its2,a2,c2,hv,rfl,rfl⟩
 have h2:=hw2.left (A:=[_,_,_,_]) (B:=ownR its2++[o2]) (fun b hb=>by
  simp only[qM,qI,or_false] at hb
  rcases hb with rfl|rfl|rfl|rfl
  ·exact hb4
  ·exact hb5
  ·exact hb6
  ·exact hb7)
 have h3:=h2.mid (ownR its2) [o2] (C:=[]) (fun b hb=>by rw[List.mem_singleton.1 hb]; exact n2)
 rwa [List.append_nil] at h3
end Go.Proofs.YtilejcofleeeiaaGreatDoor
