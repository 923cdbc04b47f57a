/- YtilejcofleeeiaaGreatDoor: walks, part 261: the reference's reader: bytes. -/
import Derived.Test.YtilejcofleeeiaaGreatDoorW267
namespace Go.Proofs.YtilejcofleeeiaaGreatDoor
open Go Go.K
open Nat renaming reduceEqDiff → qE
open List renaming mem_cons → qM, mem_append_right → qR, length_cons → qN, length_append → qA, mem_nil_iff → qI
set_option maxRecDepth 100000
set_option linter.unusedVariables false
set_option linter.unusedSimpArgs false
set_option maxHeartbeats 4000000
def kidsGo (s:List UInt8) (R:Fld→Nat→PV Vl) (fs:List Fld) (r:PV (List Vl)) (q:Nat) (l:List Vl):Prop:=r=(kidsV s R (decide (l.length=0)) (fs.drop l.length) q).and fun vs q=>.ok (l++vs) q
def kidRest (s:List UInt8) (R:Fld→Nat→PV Vl) (fs:List Fld) (g:Fld) (l:List Vl) (q:Nat):PV (List Vl):=((R g q).and fun v q=>(kidsV s R false (fs.drop (l.length+1)) q).and fun l' q=>.ok (v::l') q).and fun l' q=>.ok (l++l') q
theorem kidRest_eq {s:List UInt8} {R:Fld→Nat→PV Vl} {fs:List Fld} {g:Fld} {l:List Vl} {i q:Nat} (h:l.length=i):kidRest s R fs g l q=((R g q).and fun v q=>(kidsV s R false (fs.drop (i+1)) q).and fun l' q=>.ok (v::l') q).and fun l' q=>.ok (l++l') q:=by
 subst h; rfl
theorem fieldsR_step (d:Nat) (hP:RvOK d) (wb w:World) (lo rb:Nat) (s:List UInt8) (p:Nat) (M:Own) (ind:Bool) (f:Fld) (a:Option Addr) (c:Nat) (hlo:lo≤wb.heap.size) (hok:okT (d+1) ind f) (hk:f.k=17) (hA:FlAt wb lo f a c) (hs:s.length≤65536) (hp:p≤s.length) (hrb:wb.heap.size≤rb) (hM:∀ b∈M,wb.heap.size≤b.1) (hw:Sy wb (oRd rb s p 0 0::M) w) :
 Calls Tryz.prog 65 #[pPs rb,.agg (f.tcells a c).toArray] w (RdR wb rb s M ((mustV s [123] p).and fun _ r=>(kidsV s (readV s d) true f.sub r).and fun l r=>.ok (.mk false 0 [] l) r) VlS VfS):=by
 have hmost:f.sub.length≤32:=by
  have h1:=hok.1.1.2.2.2.2
  rw[hk] at h1
  simp[mostK] at h1
  omega
 obtain ⟨R,hR⟩:∃ R,readV s d=R:=⟨_,rfl⟩
 rw[hR]
 refine enterB (args:=[pPs rb,.agg (f.tcells a c).toArray]) Tryz.func65 rfl Tryz.ntmps65 (congrArg Array.toList Tryz.results65) (by kernel_rfl) (by simp) hw ?_
 simp (disch:=omega) only[push_cast,qE,Fld.tcells]
 refine newI (fun b3 hb3 hn3=>?_)
 simp (disch:=omega) only[push_cast,qE,Fld.tcells]
 refine newI (fun b4 hb4 hn4=>?_)
 refine sp ?_
 refine newI (fun b5 hb5 hn5=>?_)
 refine sp ?_
 refine sXa 0 rfl Siz.eq rfl rfl ?_
 refine sp ?_
 obtain ⟨o3,ho3⟩:∃ o,o=(qb1 b3 f a c):=⟨_,rfl⟩
 obtain ⟨o4,ho4⟩:∃ o,o=(qb2 b4):=⟨_,rfl⟩
 have hM1:∀ {x:Rw} {A:Own},(∀ p∈x.own,wb.heap.size≤p.1)→(∀ p∈A,wb.heap.size≤p.1)→∀ b∈x.own++(A++oVn 0 b5 x.way::o3::o4::M),wb.heap.size≤b.1:=fun hx hA b hb=>by
  simp only[List.mem_append,qM] at hb
  rcases hb with hb|hb|rfl|rfl|rfl|hb
  ·exact hx b hb
  ·exact hA b hb
  ·exact hb5
  ·rw[ho3]; exact hb3
  ·rw[ho4]; exact hb4
  ·exact hM b hb
 refine callV en_95 (callX_weak (L':=LcO ⟨none,0,0,[]⟩ [] b5 o3 o4 (oRd rb s p 0 0) M) (fun w hw=>by rw[ho3,ho4]; exact hw.perm (List.Perm.cons _ (List.Perm.swap _ _ _))) (callX_ru (fun p e b K=>LcO ⟨none,0,0,[]⟩ [] b5 o3 o4 (oRd rb s p e b) (K++M)) (fun w' hw'=>mustR_ok wb w' rb s [123] p _ hs (by simp) hp hrb (hw'.perm (lc_to _ _ _ _ _ _ _))) (fun p e b K w hw=>hw.perm (lc_of _ _ _ _ _ _ _ _)) (fun q0 er0 bd0 v K hmd hK=>?_)))
 obtain ⟨rfl,rfl⟩:v=.tuple #[]∧K=[]:=by
  rcases hmd with ⟨x,_,_,h,_⟩|⟨_,_,h⟩<;>exact h
 obtain ⟨r0,hr0⟩:∃ r0,((mustV s [123] p).and fun _ r=>kidsV s R true f.sub r)=r0:=⟨_,rfl⟩
 have hgoal:((mustV s [123] p).and fun _ r=>(kidsV s R true f.sub r).and fun l r=>(.ok (Vl.mk false 0 [] l) r:PV Vl))=r0.and fun l r=>.ok (Vl.mk false 0 [] l) r:=by rw[← hr0,PV.and_and]
 rw[hgoal]
 refine sp ?_
 refine cutV (IqX wb rb s M b3 b4 b5 o3 o4 r0 125) ?_ ?_
 ·rw[Vb]
  refine sp ?_
  refine loopW (G:=Nat) (IqI wb rb s M b3 b4 b5 o3 o4 r0 (kidsGo s R f.sub r0) f.sub.length) (fun i=>40 - i) 0 _ (fun w hw=>hw) (by kernel_rfl) ⟨rfl,rfl,⟨rfl,rfl,rfl,rfl⟩,rfl,by omega,q0,er0,bd0,⟨none,0,0,[]⟩,[],rfl,.inl ⟨rfl,rfl,rfl⟩,rfl,by simp[Rw.own],by simp,?_⟩ ?_
  ·rcases hmd with ⟨x,hr,hq,_,h1,h2⟩|⟨hr,he,_⟩
   ·refine .inl ⟨h1,h2,hq,[],[],rfl,ZeK.nil,rfl,?_⟩
    unfold kidsGo
    rw[← hr0,hr,PV.and_ok]
    show _=(kidsV s R true f.sub q0).and _
    cases kidsV s R true f.sub q0<;>rfl
   ·exact .inr ⟨he,by rw[← hr0,hr,PV.and_no]⟩
  clear hw hmd hr0 hgoal hn3 hn4 hn5
  rintro i wb e ds L ⟨rfl,rfl,⟨h0,h3,h4,h5⟩,h6,hi,q,er,bd,x,A,rfl,hxok,hxn,hxo,hAo,hmd⟩
  have m3:∀ {x:Rw} {A:Own} {o:Nat×Obj},(qb1 b3 f a c)∈LcO x A b5 o3 o4 o M:=fun {x A o}=>by first|(rw[← ho3]; exact lc_o3)|(subst ho3; exact lc_o3)
  simp (disch:=omega) only[push_cast,qE,h3,h6]
  refine lOn Shp.eq m3 rfl ?_
  simp (disch:=omega) only[push_cast,qE,h3,h6]
  refine gT rfl (fun hlt=>?_) (fun hge=>?_)
  rotate_left
  ·refine sp ?_
   rw[Vc]
   refine sp ?_
   refine ⟨rfl,rfl,⟨h0,h3,h4,h5⟩,q,er,bd,x,A,rfl,hxok,by omega,hxo,hAo,?_⟩
   rcases hmd with ⟨k1,k2,k3,l,its,hl,hZ,k4,hr⟩|h
   ·refine .inl ⟨k1,k2,k3,l,its,by omega,hZ,k4,?_⟩
    rw[hr,show f.sub.drop l.length=[] from List.drop_eq_nil_of_le (by omega),kidsV,PV.and_and]
    simp only[PV.and_ok,List.append_nil]
   ·exact .inr h
  simp (disch:=omega) only[push_cast,qE,h0]
  refine lOn Shp.eq lc_rd rfl ?_
  simp (disch:=omega) only[push_cast,qE,h0]
  rw[Vc]
  simp (disch:=omega) only[push_cast,qE,h0]
  rcases hmd with ⟨rfl,rfl,hq,l,its,hl,hZ,rfl,hr⟩|⟨her,hr⟩
  rotate_left
  ·refine cdD (fun h=>absurd h her) (fun _=>?_)
   refine sp ?_
   exact ⟨rfl,rfl,⟨h0,h3,h4,h5⟩,q,er,bd,x,A,rfl,hxok,by omega,hxo,hAo,.inr ⟨her,hr⟩⟩
  refine cdD (fun _=>?_) (fun h=>absurd rfl h)
  obtain ⟨fg,hg⟩:∃ g,f.sub[i]?=some g:=⟨_,List.getElem?_eq_getElem (by omega)⟩
  have hgm:=List.mem_of_getElem? hg
  have hokg:=hok.2 fg hgm
  have hnm:=(hokg.name).2.2
  have hdrop:f.sub.drop i=fg::f.sub.drop (i+1):=by
   obtain ⟨hil,hxe⟩:=List.getElem?_eq_some_iff.1 hg
   rw[List.drop_eq_getElem_cons hil,hxe]
  have hkid:r0=((if i=0 then .ok () q else mustV s [44] q:PV Unit)).and fun _ q=>(mustV s (fg.nm++[58]) q).and fun _ q=>kidRest s R f.sub fg l q:=by
   rw[hr,hl,hdrop,kidsV]
   simp only[kidRest_eq hl,PV.and_and]
   by_cases h0:i=0
   ·simp[h0]
   ·simp[h0]
  refine sp ?_
  rw[Vb]
  obtain ⟨gb,goff,ga,gc,rfl,g1,g2,g3⟩:=hA.get hg
  have hlt2:i < f.sub.length:=(List.getElem?_eq_some_iff.1 hg).1
  rw[V_seq]
  refine cutV (IqI wb rb s M b3 b4 b5 o3 o4 r0 (fun q l=>r0=(mustV s (fg.nm++[58]) q).and fun _ q=>kidRest s R f.sub fg l q) f.sub.length i) ?_ ?_
  ·simp (disch:=omega) only[push_cast,qE,h6]
   rw[Vc]
   simp (disch:=omega) only[push_cast,qE,h6]
   refine cdD (fun hp0=>?_) (fun hp0=>?_)
   ·rw[if_neg (by omega)] at hkid
    simp (disch:=omega) only[push_cast,qE,h0]
    refine callV en_95 (callX_ru (fun p e b K=>LcO x (ownR its) b5 o3 o4 (oRd rb s p e b) (K++M)) (fun w' hw'=>mustR_ok wb w' rb s [44] q _ hs (by simp) hq hrb (hw'.perm (lc_to _ _ _ _ _ _ _))) (fun p e b K w hw=>hw.perm (lc_of _ _ _ _ _ _ _ _)) (fun q1 er1 bd1 v K hmd hK=>?_))
    obtain ⟨rfl,rfl⟩:v=.tuple #[]∧K=[]:=by
     rcases hmd with ⟨x,_,_,h,_⟩|⟨_,_,h⟩<;>exact h
    refine sp ?_
    refine ⟨rfl,rfl,⟨h0,h3,h4,h5⟩,h6,hi,q1,er1,bd1,x,ownR its,rfl,hxok,hxn,hxo,hAo,?_⟩
    rcases hmd with ⟨y,hr1,hq1,_,h1,h2⟩|⟨hr1,he,_⟩
    ·exact .inl ⟨h1,h2,hq1,l,its,hl,hZ,rfl,by rw[hkid,hr1,PV.and_ok]⟩
    ·exact .inr ⟨he,by rw[hkid,hr1,PV.and_no]⟩
   ·rw[if_pos (by omega),PV.and_ok] at hkid
    refine sp ?_
    exact ⟨rfl,rfl,⟨h0,h3,h4,h5⟩,h6,hi,q,0,0,x,ownR its,rfl,hxok,hxn,hxo,hAo,.inl ⟨rfl,rfl,hq,l,its,hl,hZ,rfl,hkid⟩⟩
  clear h0 h3 h4 h5 h6 e hkid hr hZ hl hAo hxo hxn hxok hq
  rintro wb e ds L ⟨rfl,rfl,⟨h0,h3,h4,h5⟩,h6,hi,q,er,bd,x,A,rfl,hxok,hxn,hxo,hAo,hmd⟩
  have hM1:=hM1 hxo hAo
  have hBx:∀ o:Nat×Obj,wb.heap.size≤o.1→∀ b∈o3::o4::o::M,wb.heap.size≤b.1:=fun o ho b hb=>by
   simp only[qM] at hb
   rcases hb with rfl|rfl|rfl|hb
   ·rw[ho3]; exact hb3
   ·rw[ho4]; exact hb4
   ·exact ho
   ·exact hM b hb
  have hLn:∀ b∈LcO x A b5 o3 o4 (oRd rb s q er bd) M,wb.heap.size≤b.1:=ZbS.new (s:=0) (e6:=zeroA) (e7:=zeroA) (e8:=zeroA) (Out:=fun _=>True) (B:=fun _=>o3::o4::oRd rb s q er bd::M) (hBx _ hrb) (fun _=>hBx _ hrb) hxo hAo hb5 rfl
  rw[V_seq]
  refine cutV (IqI wb rb s M b3 b4 b5 o3 o4 r0 (fun q l=>r0=kidRest s R f.sub fg l q) f.sub.length i) ?_ ?_
  ·simp (disch:=omega) only[push_cast,qE,h0,h3,h6]
   refine lOn Shp.eq m3 rfl ?_
   simp (disch:=omega) only[push_cast,qE,h0,h3,h6]
   refine ldF Shp.eq (g2.sub 0 [str fg.nm] rfl) (out_of (fun b hb=>Nat.lt_of_lt_of_le (Nat.lt_of_lt_of_le g1 hlo) (hLn b hb))) ?_
   simp (disch:=omega) only[push_cast,qE,h0,h3,h6]
   refine addS (m:=[58]) (by simp only[qN,List.length_nil]; omega) ?_
   simp (disch:=omega) only[push_cast,qE,h0,h3,h6]
   have hml:(fg.nm++[58]).length≤65536:=by rw[qA,List.length_singleton]; omega
   rcases hmd with ⟨rfl,rfl,hq,l,its,hl,hZ,rfl,hr⟩|⟨her,hr⟩
   ·refine callV en_95 (callX_ru (fun p e b K=>LcO x (ownR its) b5 o3 o4 (oRd rb s p e b) (K++M)) (fun w' hw'=>mustR_ok wb w' rb s (fg.nm++[58]) q _ hs hml hq hrb (hw'.perm (lc_to _ _ _ _ _ _ _))) (fun p e b K w hw=>hw.perm (lc_of _ _ _ _ _ _ _ _)) (fun q1 er1 bd1 v K hmd hK=>?_))
    obtain ⟨rfl,rfl⟩:v=.tuple #[]∧K=[]:=by
     rcases hmd with ⟨x,_,_,h,_⟩|⟨_,_,h⟩<;>exact h
    refine sp ?_
    refine ⟨rfl,rfl,⟨h0,h3,h4,h5⟩,h6,hi,q1,er1,bd1,x,ownR its,rfl,hxok,hxn,hxo,hAo,?_⟩
    rcases hmd with ⟨y,hr1,hq1,_,h1,h2⟩|⟨hr1,he,_⟩
    ·exact .inl ⟨h1,h2,hq1,l,its,hl,hZ,rfl,by rw[hr,hr1,PV.and_ok]⟩
    ·exact .inr ⟨he,by rw[hr,hr1,PV.and_no]⟩
   ·refine callV en_95 (cIs (fun w' hw'=>mustR_no w' rb s (fg.nm++[58]) q bd er her (At.of_own hw' lc_rd rfl)) ?_)
    refine sp ?_
    exact ⟨rfl,rfl,⟨h0,h3,h4,h5⟩,h6,hi,q,er,bd,x,A,rfl,hxok,hxn,hxo,hAo,.inr ⟨her,hr⟩⟩
  clear h0 h3 h4 h5 h6 e hmd hLn hM1 hBx hAo hxo hxn hxok
  rintro wb e ds L ⟨rfl,rfl,⟨h0,h3,h4,h5⟩,h6,hi,q,er,bd,x,A,rfl,hxok,hxn,hxo,hAo,hmd⟩
  have hmq:er=0→bd=0∧q≤s.length:=fun h=>by
   rcases hmd with ⟨_,h1,h2,_⟩|⟨h1,_⟩
   ·exact ⟨h1,h2⟩
   ·exact absurd h h1
  have hM1:=hM1 hxo hAo
  have hsm:x.n+1≤1000000:=by omega
  have hBx:∀ o:Nat×Obj,wb.heap.size≤o.1→∀ b∈o3::o4::o::M,wb.heap.size≤b.1:=fun o ho b hb=>by
   simp only[qM] at hb
   rcases hb with rfl|rfl|rfl|hb
   ·rw[ho3]; exact hb3
   ·rw[ho4]; exact hb4
   ·exact ho
   ·exact hM b hb
  have hB0n:=hBx (oRd rb s q er bd) hrb
  have hBn:∀ g:GotV,∀ b∈o3::o4::oRd rb s g.p g.er g.bd::M,wb.heap.size≤b.1:=fun g=>hBx _ hrb
  have hxn:=hxo
  have hin:=hAo
  refine sp ?_
  refine freeIT [0,2,3,4,5,6,7] [1,8,9,10,11,12] [(1,[]),(8,[]),(9,[8]),(10,[1,9]),(11,[10]),(12,[10,11])] [o3] (ZbR wb (o3::o4::oRd rb s q er bd::M) (fun g=>o3::o4::oRd rb s g.p g.er g.bd::M) x A (0) b5 (OutV s d fg q er bd) (fun e=>e 0=pPs rb∧e 3=.pointer (some ⟨b3,0,none⟩)∧e 4=.pointer (some ⟨b4,0,none⟩)∧e 5=.pointer (some ⟨b5,0,none⟩)∧e 6=i64 i∧e 37=.pointer (some ⟨b5,3,none⟩)∧e 39=pPs rb∧e 44=.agg (fg.cells ga gc).toArray) 38 45 46 47 48 1 8 9 10 11 12) (by kernel_rfl) mixed (by kernel_rfl) (by kernel_rfl) (fun D e ds L I=>stab_one (ZbS.base_mem (.head _) (fun _=>.head _) I.o) (I.o.new hB0n hBn hxn hin hb5)) ?_ ?_ (stab_one (qR _ (qR _ (.tail _ (.head _)))) (ZbS.new (s:=0) (e6:=zeroA) (e7:=zeroA) (e8:=zeroA) (Out:=OutV s d fg q er bd) (B:=fun g=>o3::o4::oRd rb s g.p g.er g.bd::M) hB0n hBn hxn hin hb5 rfl)) ?_
  ·intro z hz D e ds L hD hdep I
   obtain ⟨h0,h3,h4,h5,h6,eA,eR,eC⟩:=I.he
   obtain rfl:=I.hds
   simp only[qM,qI,or_false] at hz
   rcases hz with rfl|rfl|rfl|rfl|rfl|rfl
   all_goals simp only[qM,qI,or_false,forall_eq_or_imp,forall_eq,false_implies,implies_true] at hD hdep
   ·simp (disch:=omega) only[push_cast,qE,eA]
    refine lOn Shp.eq (I.v_mem (I.off1 hD)) rfl ?_
    refine sp ?_
    exact ⟨_,fun w hw=>hw,I.s1 hD ⟨us h0,us h3,us h4,us h5,us h6,us eA,us eR,us eC⟩ (by decide) (by decide) (by decide)⟩
   ·obtain rfl:=I.zero hD
    simp (disch:=omega) only[push_cast,qE,eR,eC]
    refine callV en_29 (callX_own (fun w' hw'=>valueR_any hP wb w' lo rb s q er bd (x.own++(A++oVn (0) b5 x.way::o3::o4::M)) _ fg ga gc hlo hokg g3 hs hmq hrb hM1 (hw'.perm (pC))) (fun u L' hu=>?_))
    obtain ⟨g,hg,hgK,rfl,rfl⟩:=hu
    refine sp ?_
    exact ⟨g.K++(x.own++(A++oVn (0) b5 x.way::o3::o4::oRd rb s g.p g.er g.bd::M)),fun w hw=>hw.perm (pC),I.s6 hD hg hgK ⟨us h0,us h3,us h4,us h5,us h6,us eA,us eR,us eC⟩ (by decide) (by decide) (by decide)⟩
   ·obtain ⟨g,hg,hgK,e6,hL7⟩:=I.call hdep hD
    simp (disch:=omega) only[push_cast,qE,e6,Vl.cells]
    refine bs_27_1 (newI fun b7 hb7 hn7=>?_)
    refine sp ?_
    exact ⟨_,fun w hw=>hw,I.s7 hdep hD hg hgK hb7 hL7 ⟨us h0,us h3,us h4,us h5,us h6,us eA,us eR,us eC⟩ (by decide) (by decide) (by decide)⟩
   ·have e1:=I.d1 hdep.1
    simp (disch:=omega) only[push_cast,qE,e1]
    refine ZbS.app (I.row hdep.2 hD) hxok hxn hsm (fun x' L' L'' hsub hz=>?_)
    refine sp ?_
    exact ⟨L'',hsub,I.s8 hdep.1 hdep.2 hD hz ⟨us h0,us h3,us h4,us h5,us h6,us eA,us eR,us eC⟩ (by decide) (by decide) (by decide)⟩
   ·simp (disch:=omega) only[push_cast,qE,h5]
    exact ⟨_,fun w hw=>hw,I.s9 ⟨us h0,us h3,us h4,us h5,us h6,us eA,us eR,us eC⟩ (by decide) (by decide)⟩
   ·obtain ⟨g,x',hg,hgK,r3,r4,r5,r6,e8,rfl⟩:=I.app hdep.1 hD
    have eS:=I.d9 hdep.2
    simp (disch:=omega) only[push_cast,qE,eS,e8,oVn]
    refine stX 0 rfl Siz.eq rfl rfl (by simp[Value.oneCell',Rw.way]) (by simp) ?_
    refine sp ?_
    exact ⟨_,fun w hw=>hw,I.s10 hdep.1 hg hgK r3 r4 r5 r6 (by decide) (by decide)⟩
  ·intro D e ds L hD I
   obtain ⟨h0,h3,h4,h5,h6,eA,eR,eC⟩:=I.he
   obtain rfl:=I.hds
   obtain ⟨g,x',hg,hgK,r3,r4,r5,r6,rfl⟩:=I.done (hD 12 (by simp))
   simp (disch:=omega) only[push_cast,qE,h6]
   refine ⟨i+1,LcO x' (A++g.K) b5 o3 o4 (oRd rb s g.p g.er g.bd) M,fun w hw=>hw.perm (pC),⟨rfl,rfl,⟨h0,h3,h4,h5⟩,i64_eq (by omega),by omega,g.p,g.er,g.bd,x',A++g.K,rfl,r3,by omega,r6,fun b hb=>(List.mem_append.1 hb).elim (hAo b) (hgK b),?_⟩,by omega⟩
   rcases hmd with ⟨he0,hb0,hq,l,its,hl,hZ,rfl,hr⟩|⟨her,hr⟩
   ·rcases hg.1 he0 with ⟨k1,k2,k3,k4,its2,k5,k6⟩|⟨k1,k2⟩
    ·refine .inl ⟨k1,k2,k3,l++[g.y],its++its2,by simp; omega,by rw[r5]; exact ZeK.append (ZeK.single k5) hZ,by rw[k6,ownR_append],?_⟩
     unfold kidsGo
     rw[hr,kidRest_eq hl,← hR,k4,hR,PV.and_ok,PV.and_and,show (l++[g.y]).length=i+1 by simp; omega,show decide (i+1=0)=false from decide_eq_false (by omega)]
     simp only[PV.and_ok,List.append_assoc,List.singleton_append]
    ·exact .inr ⟨k1,by rw[hr,kidRest_eq hl,← hR,k2,PV.and_no,PV.and_no]⟩
   ·obtain ⟨k1,k2⟩:=hg.2 her
    exact .inr ⟨by rw[k1]; exact her,by rw[k1,k2]; exact hr⟩
  ·simp (disch:=omega) only[push_cast,qE,h0,h3,h5,h6]
   refine lOn Shp.eq (by rw[ho3]; exact .head _) rfl ?_
   simp (disch:=omega) only[push_cast,qE,h0,h3,h5,h6]
   refine ldAggF Shp.eq g2 rfl (out_of (fun b hb=>Nat.lt_of_lt_of_le (Nat.lt_of_lt_of_le g1 hlo) (hB0n b (by rw[List.mem_singleton.1 hb]; exact .head _)))) ?_
   simp (disch:=omega) only[push_cast,qE,h0,h3,h5,h6,Fld.cells]
   exact ⟨rfl,⟨h0,h3,h4,h5,h6,rfl,rfl,rfl⟩,(fun h=>by simp at h),(by simp),rfl,(fun h=>by simp at h)⟩
 clear hmd hr0 hgoal
 rintro wb e ds L ⟨rfl,rfl,⟨h0,h3,h4,h5⟩,q,er,bd,x,A,rfl,hxok,hxn,hxo,hAo,hmd⟩
 have fin:∀ (q1:Nat) (er1:Int) (bd1:Nat) (o:Obj) (w':World),Sy wb ((b4,o)::oRd rb s q1 er1 bd1::(x.own++(A++oVn 0 b5 x.way::o3::M))) w'→Sy wb (oRd rb s q1 er1 bd1::((x.own++A)++M)) w':=fun q1 er1 bd1 o w' hw'=>by
  have h1:Sy wb ([(b4,o),oVn 0 b5 x.way,o3]++(oRd rb s q1 er1 bd1::((x.own++A)++M))) w':=hw'.perm (pC)
  exact h1.left (fun b hb=>by
   simp only[qM,qI,or_false] at hb
   rcases hb with rfl|rfl|rfl
   ·exact hb4
   ·exact hb5
   ·rw[ho3]; exact hb3)
 have hKn:∀ b∈x.own++A,wb.heap.size≤b.1:=fun b hb=>(List.mem_append.1 hb).elim (hxo b) (hAo b)
 have hVf:VfS (.agg #[.bool false,i64 0,str [],x.way]) (x.own++A):=⟨.mk false 0 [] (List.replicate x.n (.mk false 0 [] [])),x.at_,x.c,way_cells (by simp)⟩
 have out:∀ (q1:Nat) (er1:Int) (bd1:Nat) {K:Own→Prop},K ((b4,Obj.cells #[.bool false,i64 0,str [],x.way] 29 (0,0))::oRd rb s q1 er1 bd1::(x.own++(A++oVn 0 b5 x.way::o3::M)))→StoreX Tryz.prog 29 (.pointer (some ⟨b4,0,none⟩)) (.agg #[.bool false,i64 0,str [],x.way]) wb (LcO x A b5 o3 o4 (oRd rb s q1 er1 bd1) M) (tag K):=fun q1 er1 bd1 {K} hK=>by
  refine storeX_weak (L':=(qb2 b4)::oRd rb s q1 er1 bd1::(x.own++(A++oVn 0 b5 x.way::o3::M))) (fun w hw=>by first|(rw[← ho4]; exact hw.perm (pC))|(subst ho4; exact hw.perm (pC))) (stX 0 rfl Siz.eq rfl rfl (by simp[Value.oneCell',Rw.way]) (by simp) ?_)
  exact hK
 simp (disch:=omega) only[push_cast,qE,h0]
 rcases hmd with ⟨rfl,rfl,hq,l,its,hl,hZ,rfl,hr⟩|⟨her,hr⟩
 ·refine callV en_95 (callX_ru (fun p e b K=>LcO x (ownR its) b5 o3 o4 (oRd rb s p e b) (K++M)) (fun w' hw'=>mustR_ok wb w' rb s [125] q _ hs (by simp) hq hrb (hw'.perm (lc_to _ _ _ _ _ _ _))) (fun p e b K w hw=>hw.perm (lc_of _ _ _ _ _ _ _ _)) (fun q1 er1 bd1 v K hmd hK=>?_))
  obtain ⟨rfl,rfl⟩:v=.tuple #[]∧K=[]:=by
   rcases hmd with ⟨x,_,_,h,_⟩|⟨_,_,h⟩<;>exact h
  simp (disch:=omega) only[push_cast,qE,h5]
  refine lAg Shp.eq lc_v rfl rfl ?_
  simp (disch:=omega) only[push_cast,qE,h4]
  refine out q1 er1 bd1 ?_
  simp (disch:=omega) only[push_cast,qE,h4]
  refine lAg Shp.eq mem0 rfl rfl ?_
  refine sp ?_
  refine fun w' hw'=>?_
  have hw2:=fin q1 er1 bd1 _ w' hw'
  rcases hmd with ⟨y,hr1,hq1,_,rfl,rfl⟩|⟨hr1,he,_⟩
  ·refine RdR.good (x:=.mk false 0 [] l) (q:=q1) _ (x.own++ownR its) (by rw[hr,hr1,PV.and_ok,PV.and_ok]) hq1 ⟨x::its,x.at_,x.c,zeV_list (by simp) (by decide) hxok hl.symm hZ,way_cells hl.symm,(ownR_cons _ _).symm⟩ hKn hw2
  ·exact RdR.bad _ (x.own++ownR its) (by rw[hr,hr1,PV.and_no,PV.and_no]) he hVf hKn hw2
 ·refine callV en_95 (cIs (fun w' hw'=>mustR_no w' rb s [125] q bd er her (At.of_own hw' lc_rd rfl)) ?_)
  simp (disch:=omega) only[push_cast,qE,h5]
  refine lAg Shp.eq lc_v rfl rfl ?_
  simp (disch:=omega) only[push_cast,qE,h4]
  refine out q er bd ?_
  simp (disch:=omega) only[push_cast,qE,h4]
  refine lAg Shp.eq mem0 rfl rfl ?_
  refine sp ?_
  exact fun w' hw'=>RdR.bad _ (x.own++A) (by rw[hr,PV.and_no]) her hVf hKn (fin q er bd _ w' hw')
structure BrI (w0:World) (rb:Nat) (s:List UInt8) (M:Own) (r:PV (List UInt8)) (q:Nat) (wb:World) (e:Env) (ds:List Deferred) (L:Own):Prop where
 hw:wb=w0
 hds:ds=[]
 h0:e 0=pPs rb
 o:∃ bs R er bd,L=oRd rb s q er bd::(R++M)∧RowO w0 5 1 R [] (e 3) bs.length (bytesV bs)∧bs.length≤65536∧RdM s q er bd r (bs.length≤q∧∃ m,s.length - q < m∧r=(hexV s m q).and fun l r=>.ok (bs++l) r)
structure BkD (w0:World) (rb:Nat) (s:List UInt8) (v3:Value) (L0:Own) (q k:Nat) (wb:World) (e:Env) (ds:List Deferred) (L:Own):Prop where
 hw:wb=w0
 hds:ds=[]
 o:L=L0
 hk:k≤2
 hd:∀ j,j < k→∃ d,(s[q+j]?).bind digV=some d
 h0:e 0=pPs rb
 h3:e 3=v3
 h4:e 4=i64 k
structure BtI (wb:World) (rb:Nat) (s:List UInt8) (q:Nat) (R M:Own) (v3:Value) (bs:List UInt8) (c1 c2:UInt8) (d1 d2:Nat) (x:UInt8) (D:Nat→Bool) (e:Env) (ds:List Deferred) (L:Own):Prop where
 hds:ds=[]
 h0:e 0=pPs rb
 h56:e 56=v3
 h65:e 65=.int .u8 c1.toNat
 h77:e 77=.int .u8 c2.toNat
 d10:D 10=true→e 66=i64 d1
 d11:D 11=true→e 67=i64 (16 * (d1:Int))
 d22:D 22=true→e 78=i64 d2
 d23:D 23=true→e 79=i64 (16 * (d1:Int)+d2)
 d24:D 24=true→e 80=.int .u8 x.toNat
 o:(D 25=false∧D 26=false∧L=oRd rb s q 0 0::(R++M)) ∨
  (D 25=true∧D 26=false∧∃ b8,wb.heap.size≤b8∧e 81=.slice (some ⟨b8,0,none⟩) 1 1∧L=(b8,Obj.cells #[.int .u8 (x.toNat:Int)] 5 (0,0))::oRd rb s q 0 0::(R++M)) ∨
  (D 25=true∧D 26=true∧∃ R' v',L=R'++(oRd rb s q 0 0::M)∧RowO wb 5 1 R' [] v' (bs++[x]).length (bytesV (bs++[x]))∧e 82=v'∧(D 27=true→e 3=v'))
 m27:D 27=true→D 26=true
theorem bf {a b:Bool} (h:a=true→b=true) (hb:b=false):a=false:=by
 cases a with
 | true=>rw[h rfl] at hb; cases hb
 | false=>rfl
theorem hex_no {s:List UInt8} {m q:Nat} (h34:¬ s[q]?=some 34):hexV s (m+1) q=(digAt s q).and fun a r=>(digAt s r).and fun b r2=>(hexV s m r2).and fun l r3=>.ok (UInt8.ofNat (16 * a+b)::l) r3:=by rw[hexV,if_neg h34]
theorem bytesR_walk (wb w:World) (rb:Nat) (s:List UInt8) (p:Nat) (M:Own) (hs:s.length≤65536) (hp:p≤s.length) (hrb:wb.heap.size≤rb) (hM:∀ b∈M,wb.heap.size≤b.1) (hw:Sy wb (oRd rb s p 0 0::M) w) :
 Calls Tryz.prog 62 #[pPs rb] w (RdR wb rb s M (rawV s p) (fun t v K=>v=str t∧K=[]) (fun v K=>(∃ t,v=str t)∧K=[])):=by
 refine enterB (args:=[pPs rb]) Tryz.func62 rfl Tryz.ntmps62 (congrArg Array.toList Tryz.results62) (by kernel_rfl) (by simp) hw ?_
 refine sp ?_
 refine callV en_95 (callX_ru (fun p e b K=>oRd rb s p e b::(K++M)) (fun w' hw'=>mustR_ok wb w' rb s [120,34] p M hs (by simp) hp hrb hw') (fun _ _ _ _ _ h=>h) (fun q0 er0 bd0 v K hmd hK=>?_))
 obtain ⟨rfl,rfl⟩:v=.tuple #[]∧K=[]:=by
  rcases hmd with ⟨x,_,_,h,_⟩|⟨_,_,h⟩<;>exact h
 refine sp ?_
 rw[Vb]
 refine sp ?_
 refine loopW (G:=Nat) (BrI wb rb s M (rawV s p)) (fun q=>s.length - q) q0 _ (fun w hw=>hw) (by kernel_rfl) ⟨rfl,rfl,rfl,[],[],er0,bd0,rfl,⟨rfl,.inl ⟨rfl,rfl,rfl⟩⟩,by simp,?_⟩ ?_
 ·unfold rawV
  rcases hmd with ⟨x,hr,hq,_,h1,h2⟩|⟨hr,he,_⟩
  ·refine .inl ⟨h1,h2,hq,by simp,s.length+1,by omega,?_⟩
   rw[hr,PV.and_ok]
   cases hexV s (s.length+1) q0<;>rfl
  ·exact .inr ⟨he,by rw[hr,PV.and_no]⟩
 clear hw hmd hK
 rintro q wb e ds L ⟨rfl,rfl,h0,bs,R,er,bd,rfl,hR,hbl,hmd⟩
 obtain ⟨v3,h3⟩:∃ v3,e 3=v3:=⟨_,rfl⟩
 rw[h3] at hR
 obtain ⟨va,vc,rfl⟩:=rowO_slice hR
 have hRn:∀ b∈R,wb.heap.size≤b.1:=hR.new (by simp)
 have hnew:∀ q' e' b',∀ b∈oRd rb s q' e' b'::(R++M),wb.heap.size≤b.1:=fun q' e' b' b hb=>by
  rcases List.mem_cons.1 hb with rfl|hb
  ·exact hrb
  ·exact (List.mem_append.1 hb).elim (hRn b) (hM b)
 have drop:∀ {q' e' b'} {w':World},Sy wb (oRd rb s q' e' b'::(R++M)) w'→Sy wb (oRd rb s q' e' b'::([]++M)) w':=fun h=>Sy.mid [_] R h hRn
 have conv:∀ {src:TypeId} {q':Nat} {e':Int} {b':Nat} {K:Value→World→Own→Prop},Tryz.prog.underlying src=some (.slice 5)→K (str bs) wb (R++(oRd rb s q' e' b'::M))→ConvX Tryz.prog src 9 (.slice va bs.length vc) wb (oRd rb s q' e' b'::(R++M)) (tag K):=fun hsrc hK =>
  convX_weak (fun w hw=>hw.perm List.perm_middle.symm) (convS hsrc Tryz.underlying5 Tryz.underlying9 (RowO.frame hR) hK)
 simp (disch:=omega) only[push_cast,qE,h0]
 refine lOn Shp.eq mem0 rfl ?_
 simp (disch:=omega) only[push_cast,qE,h0]
 rcases hmd with ⟨rfl,rfl,hq,hbq,m,hm,hr⟩|⟨her,hr⟩
 rotate_left
 ·refine gT rfl (fun h=>absurd h her) (fun _=>?_)
  simp (disch:=omega) only[push_cast,qE,h0]
  rw[Vc]
  simp (disch:=omega) only[push_cast,qE,h0]
  refine callV en_95 (cIs (fun w' hw'=>mustR_no w' rb s [34] q bd er her (At.of_own hw' mem0 rfl)) ?_)
  simp (disch:=omega) only[push_cast,qE,h3]
  refine conv un_54 ?_
  refine sp ?_
  exact fun w' hw'=>RdR.bad _ [] hr her ⟨⟨_,rfl⟩,rfl⟩ (by simp) (drop (hw'.perm List.perm_middle))
 obtain ⟨m,rfl⟩:∃ m',m=m'+1:=⟨m - 1,by omega⟩
 refine gT rfl (fun _=>?_) (fun h=>absurd rfl h)
 simp (disch:=omega) only[push_cast,qE,h0]
 refine callV en_96 (cIs (fun w' hw'=>isR_walk w' rb s q 0 0 34 34 rfl (At.of_own hw' mem0 rfl)) ?_)
 simp (disch:=omega) only[push_cast,qE,h0]
 rw[Vc]
 simp (disch:=omega) only[push_cast,qE,h0]
 refine cdB (fun h34=>?_) (fun h34=>?_)
 rotate_left
 ·have h34:s[q]?=some 34:=by simpa using h34
  simp (disch:=omega) only[push_cast,qE,h0]
  refine callV en_95 (callX_rd (M:=R++M) (fun w' hw'=>mustR_ok wb w' rb s [34] q (R++M) hs (by simp) hq hrb hw') (fun x q1 v K hr1 hq1 hS hK=>?_) (fun er q1 p1 v K hr1 he hF hK=>?_))
  rotate_left
  ·exact absurd hr1 (by rw[mustV_yes (t:=[34]) (cons_drop h34)]; simp)
  obtain ⟨rfl,rfl⟩:=hS
  simp (disch:=omega) only[push_cast,qE,h3]
  refine conv un_54 ?_
  refine sp ?_
  exact fun w' hw'=>RdR.good _ [] (by rw[hr,hexV,if_pos h34,(mustV_some hr1).2,PV.and_ok,List.append_nil]; rfl) hq1 ⟨rfl,rfl⟩ (by simp) (drop (hw'.perm List.perm_middle))
 have h34:¬ s[q]?=some 34:=by simpa using h34
 rw[hex_no h34] at hr
 have fail:∀ k,rawV s p=.no 8 k→∀ w',Sy wb (oRd rb s q 8 k::(R++M)) w'→RdR wb rb s M (rawV s p) (fun t v K=>v=str t∧K=[]) (fun v K=>(∃ t,v=str t)∧K=[]) (.returned (str [])) w':=fun k hr w' hw'=>RdR.bad _ [] hr (by decide) ⟨⟨_,rfl⟩,rfl⟩ (by simp) (drop hw')
 simp (disch:=omega) only[push_cast,qE,h0]
 rw[Vb,V_seq]
 refine cutV (BkD wb rb s (.slice va bs.length vc) (oRd rb s q 0 0::(R++M)) q 2) ?_ ?_
 ·simp (disch:=omega) only[push_cast,qE,h0]
  rw[Vb]
  simp (disch:=omega) only[push_cast,qE,h0]
  refine loopW (G:=Nat) (BkD wb rb s (.slice va bs.length vc) (oRd rb s q 0 0::(R++M)) q) (fun k=>2 - k) 0 _ (fun w hw=>hw) (by kernel_rfl) ⟨rfl,rfl,rfl,by omega,fun j hj=>absurd hj (Nat.not_lt_zero _),h0,h3,rfl⟩ ?_
  clear h0 h3 e
  rintro k wb e ds L ⟨rfl,rfl,rfl,hk,hd,h0,h3,h4⟩
  simp (disch:=omega) only[push_cast,qE,h4]
  rw[Vc]
  simp (disch:=omega) only[push_cast,qE,h4]
  refine cdD (fun hlt=>?_) (fun hge=>?_)
  rotate_left
  ·obtain rfl:k=2:=by omega
   simp (disch:=omega) only[push_cast,qE,h4]
   exact ⟨rfl,rfl,rfl,by omega,hd,h0,h3,h4⟩
  have bad:(s[q+k]?).bind digV=none→rawV s p=.no 8 (q+k):=fun h=>by
   rw[hr]
   rcases (by omega:k=0∨k=1) with rfl|rfl
   ·rw[show digAt s q=.no 8 q by unfold digAt; rw[Nat.add_zero] at h; rw[h]]; rfl
   ·obtain ⟨d,hd0⟩:=hd 0 (by omega)
    rw[Nat.add_zero] at hd0
    rw[show digAt s q=.ok d (q+1) by unfold digAt; rw[hd0],PV.and_ok,show digAt s (q+1)=.no 8 (q+1) by unfold digAt; rw[h]]; rfl
  simp (disch:=omega) only[push_cast,qE,h0,h4]
  rw[Vb]
  simp (disch:=omega) only[push_cast,qE,h0,h4]
  have etn:((q:Int)+k).toNat=q+k:=by omega
  refine drawQT (by kernel_rfl) (by kernel_rfl) mixed (by kernel_rfl) ?_
  simp (disch:=omega) only[push_cast,qE,h0,h4]
  refine lOn Shp.eq mem0 rfl ?_
  simp (disch:=omega) only[push_cast,qE,h0,h4]
  refine lOn Shp.eq mem0 rfl ?_
  simp (disch:=omega) only[push_cast,qE,h0,h4]
  refine gF rfl (fun hlt2=>?_) (fun hge2=>?_)
  ·have hlt3:q+k < s.length:=by omega
   simp (disch:=omega) only[push_cast,qE,h0,h4]
   refine lOn Shp.eq mem0 rfl ?_
   simp (disch:=omega) only[push_cast,qE,h0,h4]
   refine lOn Shp.eq mem0 rfl ?_
   simp (disch:=omega) only[push_cast,qE,h0,h4,etn]
   refine qcallV en_99 (qcallX_is _ (fun w' _=>digitR_walk w' (s.getD (q+k) 0)) ?_)
   rcases hdg:digV (s.getD (q+k) 0) with _|d
   ·simp (disch:=omega) only[push_cast,qE,h0,h4]
    rw[Vc]
    simp (disch:=omega) only[push_cast,qE,h0,h4]
    refine cdD (fun _=>?_) (fun h=>absurd (by decide) h)
    simp (disch:=omega) only[push_cast,qE,h0,h4]
    refine lOn Shp.eq mem0 rfl ?_
    simp (disch:=omega) only[push_cast,qE,h0,h4]
    refine callV en_30 (callX_own (fun w' hw'=>by rw[← Int.natCast_add]; exact failR_ok wb w' rb s q 0 (R++M) 8 (q+k) hw') (fun v L' hv=>?_))
    obtain ⟨rfl,rfl⟩:=hv
    refine sp ?_
    exact fail _ (bad (by rw[getD_at hlt3,Option.bind_some,hdg]))
   ·simp (disch:=omega) only[push_cast,qE,h0,h4]
    rw[Vc]
    simp (disch:=omega) only[push_cast,qE,h0,h4]
    refine cdD (fun h=>absurd h (by omega)) (fun _=>?_)
    simp (disch:=omega) only[push_cast,qE,h0,h4]
    refine ⟨k+1,_,fun w hw=>hw,⟨rfl,rfl,rfl,by omega,fun j hj=>?_,h0,h3,i64_eq (by omega)⟩,by omega⟩
    rcases Nat.lt_or_eq_of_le (Nat.le_of_lt_succ hj) with h1|rfl
    ·exact hd j h1
    ·exact ⟨d,by rw[getD_at hlt3,Option.bind_some,hdg]⟩
  ·simp (disch:=omega) only[push_cast,qE,h0,h4]
   rw[Vc]
   simp (disch:=omega) only[push_cast,qE,h0,h4]
   refine lOn Shp.eq mem0 rfl ?_
   simp (disch:=omega) only[push_cast,qE,h0,h4]
   refine callV en_30 (callX_own (fun w' hw'=>by rw[← Int.natCast_add]; exact failR_ok wb w' rb s q 0 (R++M) 8 (q+k) hw') (fun v L' hv=>?_))
   obtain ⟨rfl,rfl⟩:=hv
   refine sp ?_
   exact fail _ (bad (by rw[List.getElem?_eq_none (by omega)]; rfl))
 clear h0 h3 e
 rintro wb e ds L ⟨rfl,rfl,rfl,_,hd,h0,h3,_⟩
 obtain ⟨d1,hd1⟩:=hd 0 (by omega)
 obtain ⟨d2,hd2⟩:=hd 1 (by omega)
 rw[Nat.add_zero] at hd1
 have hl1:q+1 < s.length:=by
  rcases Nat.lt_or_ge (q+1) s.length with h|h
  ·exact h
  ·rw[List.getElem?_eq_none h] at hd2; cases hd2
 obtain ⟨c1,hc1⟩:∃ c1,s.getD q 0=c1:=⟨_,rfl⟩
 obtain ⟨c2,hc2⟩:∃ c2,s.getD (q+1) 0=c2:=⟨_,rfl⟩
 have hv1:digV c1=some d1:=by rw[getD_at (by omega:q < s.length),hc1] at hd1; exact hd1
 have hv2:digV c2=some d2:=by rw[getD_at hl1,hc2] at hd2; exact hd2
 have hn1:=digV_lt hv1
 have hn2:=digV_lt hv2
 obtain ⟨x,hx⟩:∃ x,UInt8.ofNat (16 * d1+d2)=x:=⟨_,rfl⟩
 have hxw:IntKind.u8.wrap (16 * (d1:Int)+d2)=(x.toNat:Int):=by
  rw[← hx,UInt8.toNat_ofNat']
  simp[IntKind.wrap,IntKind.bits,IntKind.signed]
 have et1:((q:Int)+1).toNat=q+1:=by omega
 simp (disch:=omega) only[push_cast,qE,h0,h3]
 refine freeIT [0,1,2,3,4,5,6,7,8,9,12,13,14,15,16,17,18,19,20,21] [10,11,22,23,24,25,26,27] [(10,[]),(11,[10]),(22,[]),(23,[11,22]),(24,[23]),(25,[24]),(26,[25]),(27,[26])] [oRd rb s q 0 0] (BtI wb rb s q R M (.slice va bs.length vc) bs c1 c2 d1 d2 x) (by kernel_rfl) mixed (by kernel_rfl) (by kernel_rfl) (fun D e ds L hI=>?_) ?_ ?_ (stab_one mem0 (hnew q 0 0)) ?_
 ·rcases hI.o with ⟨_,_,rfl⟩|⟨_,_,b8,hb8,_,rfl⟩|⟨_,_,R',v',rfl,hR',_⟩
  ·exact stab_one mem0 (hnew q 0 0)
  ·exact stab_one (.tail _ mem0) ((nC hb8 (hnew q 0 0)))
  ·exact stab_one (qR _ (.head _)) ((nA (hR'.new (by simp)) (nC hrb hM)))
 ·intro z hz D e ds L hD hdep hI
  obtain ⟨rfl,h0,h56,h65,h77,d10,d11,d22,d23,d24,ho,m27⟩:=hI
  simp only[qM,qI,or_false] at hz
  rcases hz with rfl|rfl|rfl|rfl|rfl|rfl|rfl|rfl
  all_goals simp only[qM,qI,or_false,forall_eq_or_imp,forall_eq,false_implies,implies_true] at hD hdep
  ·simp (disch:=omega) only[push_cast,qE,h65]
   refine callV en_99 (cIs (v:=i64 d1) (fun w' _=>by have h:=digitR_walk w' c1; rw[hv1] at h; exact h) ?_)
   refine sp ?_
   exact ⟨_,fun w hw=>hw,rfl,us h0,us h56,us h65,us h77,fun _=>by simp[upd],ud d11,ud d22,ud d23,ud d24,us ho,ue m27⟩
  ·have e10:=d10 hdep
   simp (disch:=omega) only[push_cast,qE,e10]
   exact ⟨_,fun w hw=>hw,rfl,us h0,us h56,us h65,us h77,ud d10,fun _=>by simp[upd],ud d22,ud d23,ud d24,us ho,ue m27⟩
  ·simp (disch:=omega) only[push_cast,qE,h77]
   refine callV en_99 (cIs (v:=i64 d2) (fun w' _=>by have h:=digitR_walk w' c2; rw[hv2] at h; exact h) ?_)
   refine sp ?_
   exact ⟨_,fun w hw=>hw,rfl,us h0,us h56,us h65,us h77,ud d10,ud d11,fun _=>by simp[upd],ud d23,ud d24,us ho,ue m27⟩
  ·have e11:=d11 hdep.1
   have e22:=d22 hdep.2
   simp (disch:=omega) only[push_cast,qE,e11,e22]
   exact ⟨_,fun w hw=>hw,rfl,us h0,us h56,us h65,us h77,ud d10,ud d11,ud d22,fun _=>by simp[upd],ud d24,us ho,ue m27⟩
  ·have e23:=d23 hdep
   simp (disch:=omega) only[push_cast,qE,e23,hxw]
   exact ⟨_,fun w hw=>hw,rfl,us h0,us h56,us h65,us h77,ud d10,ud d11,ud d22,ud d23,fun _=>by simp[upd],us ho,ue m27⟩
  ·have e24:=d24 hdep
   rcases ho with ⟨_,h26,rfl⟩|⟨h25,_⟩|⟨h25,_⟩
   rotate_left
   ·rw[hD] at h25; cases h25
   ·rw[hD] at h25; cases h25
   have h27:D 27=false:=bf m27 h26
   simp (disch:=omega) only[push_cast,qE,e24]
   refine bs_54_1 (newI fun b8 hb8 hn8=>?_)
   refine sp ?_
   exact ⟨_,fun w hw=>hw,rfl,us h0,us h56,us h65,us h77,ud d10,ud d11,ud d22,ud d23,ud d24,.inr (.inl ⟨by simp,un h26,b8,hb8,by simp[upd],rfl⟩),fun h=>by simp[h27] at h⟩
  ·rcases ho with ⟨h25,_⟩|⟨h25,_,b8,hb8,h81,rfl⟩|⟨_,h26,_⟩
   ·rw[hdep] at h25; cases h25
   rotate_left
   ·rw[hD] at h26; cases h26
   have h27:D 27=false:=bf m27 hD
   simp (disch:=omega) only[push_cast,qE,h56,h81]
   refine valX_weak (L':=(b8,Obj.cells #[.int .u8 (x.toNat:Int)] 5 (0,0))::(R++(oRd rb s q 0 0::M))) (fun w hw=>hw.perm (List.Perm.cons _ List.perm_middle.symm)) (appendB (M:=oRd rb s q 0 0::M) [x] un_54 infoU8 (RowO.frame hR) hb8 (by simp; omega) (fun v' L' h'=>?_))
   obtain ⟨R',rfl,hR'⟩:=RowO.unframe h'
   refine sp ?_
   exact ⟨R'++(oRd rb s q 0 0::M),fun w hw=>hw.mid R' [_] (fun p hp=>by rw[List.mem_singleton.1 hp]; exact hb8),rfl,us h0,us h56,us h65,us h77,ud d10,ud d11,ud d22,ud d23,ud d24,.inr (.inr ⟨un h25,by simp,R',v',rfl,hR'.cast (by rw[qA]) (bytesV_append _ _).symm,by simp[upd],fun h=>by simp[h27] at h⟩),fun _=>by simp⟩
  ·rcases ho with ⟨_,h26,_⟩|⟨_,h26,_⟩|⟨h25,h26,R',v',rfl,hR',h82,_⟩
   ·rw[hdep] at h26; cases h26
   ·rw[hdep] at h26; cases h26
   simp (disch:=omega) only[push_cast,qE,h82]
   exact ⟨_,fun w hw=>hw,rfl,us h0,us h56,us h65,us h77,ud d10,ud d11,ud d22,ud d23,ud d24,.inr (.inr ⟨un h25,un h26,R',v',rfl,hR',us h82,fun _=>by simp[upd]⟩),fun _=>un h26⟩
 ·intro D e ds L hD hI
  obtain ⟨rfl,h0,h56,h65,h77,d10,d11,d22,d23,d24,ho,m27⟩:=hI
  have h27:D 27=true:=hD 27 (by simp)
  have h26:=m27 h27
  rcases ho with ⟨_,h,_⟩|⟨_,h,_⟩|⟨_,_,R',v',rfl,hR',_,h3⟩
  ·rw[h26] at h; cases h
  ·rw[h26] at h; cases h
  replace h3:=h3 h27
  simp (disch:=omega) only[push_cast,qE,h0]
  refine lOn Shp.eq (qR _ (.head _)) rfl ?_
  simp (disch:=omega) only[push_cast,qE,h0]
  refine storeX_weak (L':=oRd rb s q 0 0::(R'++M)) (fun w hw=>hw.perm List.perm_middle) (sXa 0 rfl Siz.eq rfl rfl ?_)
  simp (disch:=omega) only[push_cast,qE,h0]
  refine ⟨q+2,oRd rb s (q+2) 0 0::(R'++M),fun w hw=>(by rw[oRd,Int.natCast_add]; simpa [splice] using hw),⟨rfl,rfl,h0,bs++[x],R',0,0,rfl,(by rw[h3]; exact hR':RowO wb 5 1 R' [] (e 3) (bs++[x]).length (bytesV (bs++[x]))),by simp only[qA,qN,List.length_nil]; omega,.inl ⟨rfl,rfl,by omega,by simp only[qA,qN,List.length_nil]; omega,m,by omega,?_⟩⟩,by omega⟩
  rw[hr,show digAt s q=.ok d1 (q+1) by unfold digAt; rw[hd1],PV.and_ok,show digAt s (q+1)=.ok d2 (q+1+1) by unfold digAt; rw[hd2],PV.and_ok,PV.and_and,hx]
  simp only[PV.and_ok,List.append_assoc,List.singleton_append]
 ·simp (disch:=omega) only[push_cast,qE,h0,h3]
  refine lOn Shp.eq mem0 rfl ?_
  simp (disch:=omega) only[push_cast,qE,h0,h3]
  refine lOn Shp.eq mem0 rfl ?_
  simp (disch:=omega) only[push_cast,qE,h0,h3,Int.toNat_natCast,hc1]
  refine lOn Shp.eq mem0 rfl ?_
  simp (disch:=omega) only[push_cast,qE,h0,h3]
  refine lOn Shp.eq mem0 rfl ?_
  simp (disch:=omega) only[push_cast,qE,h0,h3,et1,hc2]
  refine ⟨rfl,h0,rfl,rfl,rfl,fun h=>by simp at h,fun h=>by simp at h,fun h=>by simp at h,fun h=>by simp at h,fun h=>by simp at h,.inl ⟨rfl,rfl,rfl⟩,fun h=>by simp at h⟩
end Go.Proofs.YtilejcofleeeiaaGreatDoor
