/- YtilejcofleeeiaaGreatDoor: walks, part 267: the reference's reader: the items of lists and spans. -/
import Derived.Test.YtilejcofleeeiaaGreatDoorW260
namespace Go.Proofs.YtilejcofleeeiaaGreatDoor
open Go Go.K
open Nat renaming reduceEqDiff → qE
open List renaming mem_cons → qM, mem_append_right → qR, mem_nil_iff → qI
set_option maxRecDepth 100000
set_option linter.unusedVariables false
set_option linter.unusedSimpArgs false
set_option maxHeartbeats 4000000
abbrev LcO (x:Rw) (A:Own) (b5:Nat) (o3 o4 o:Nat×Obj) (M:Own):Own:=x.own++(A++oVn 0 b5 x.way::o3::o4::o::M)
theorem lc_to (x:Rw) (A:Own) (b5:Nat) (o3 o4 o:Nat×Obj) (M:Own):(LcO x A b5 o3 o4 o M).Perm (o::(x.own++(A++oVn 0 b5 x.way::o3::o4::M))):=pC
theorem lc_of (x:Rw) (A:Own) (b5:Nat) (o3 o4 o:Nat×Obj) (K M:Own):(o::(K++(x.own++(A++oVn 0 b5 x.way::o3::o4::M)))).Perm (LcO x A b5 o3 o4 o (K++M)):=pC
theorem lc_rd {x:Rw} {A:Own} {b5:Nat} {o3 o4 o:Nat×Obj} {M:Own}:o∈LcO x A b5 o3 o4 o M:=qR _ (qR _ (.tail _ (.tail _ (.tail _ (.head _)))))
theorem lc_o3 {x:Rw} {A:Own} {b5:Nat} {o3 o4 o:Nat×Obj} {M:Own}:o3∈LcO x A b5 o3 o4 o M:=qR _ (qR _ (.tail _ (.head _)))
theorem lc_v {x:Rw} {A:Own} {b5:Nat} {o3 o4 o:Nat×Obj} {M:Own}:oVn 0 b5 x.way∈LcO x A b5 o3 o4 o M:=qR _ (qR _ (.head _))
theorem zeV_list {tx:List UInt8} {nu:Int} {ls:List Vl} {x:Rw} {its:List Rw} (htx:tx.length≤9223372036854775807) (hnu : -9223372036854775808≤nu∧nu < 9223372036854775808) (hx:x.OK) (hn:x.n=ls.length) (hk:ZeK ls its (x.cs.take (x.n * 4))):ZeV (.mk false nu tx ls) (x::its) x.at_ x.c:=by
 rw[ZeV]
 exact ⟨htx,hnu,x,its,rfl,hx,hn,rfl,rfl,hk⟩
theorem way_cells {x:Rw} {nu:Int} {ls:List Vl} (h:x.n=ls.length):Value.agg #[.bool false,i64 nu,str [],x.way]=.agg ((Vl.mk false nu [] ls).cells x.at_ x.c).toArray:=by
 simp[Vl.cells,Rw.way,h,Vl.nu,Vl.num,Vl.tx,Vl.ls]
structure RqE (b3 b4 b5 rb vp:Nat) (e:Env):Prop where
 h0:e 0=pPs rb
 h3:e 3=.pointer (some ⟨b3,0,none⟩)
 h4:e 4=.pointer (some ⟨b4,0,none⟩)
 h5:e vp=.pointer (some ⟨b5,0,none⟩)
structure IqI (w0:World) (rb:Nat) (s:List UInt8) (M:Own) (b3 b4 b5:Nat) (o3 o4:Nat×Obj) (r:PV (List Vl)) (G:Nat→List Vl→Prop) (N i:Nat) (wb:World) (e:Env) (ds:List Deferred) (L:Own):Prop where
 hw:wb=w0
 hds:ds=[]
 he:RqE b3 b4 b5 rb 5 e
 h6:e 6=i64 i
 hi:i≤N
 o:∃ (q:Nat) (er:Int) (bd:Nat) (x:Rw) (A:Own),L=LcO x A b5 o3 o4 (oRd rb s q er bd) M∧x.OK∧x.n=i∧(∀ p∈x.own,w0.heap.size≤p.1)∧(∀ p∈A,w0.heap.size≤p.1)∧RdM s q er bd r (∃ (l:List Vl) (its:List Rw),l.length=i∧ZeK l its (x.cs.take (x.n * 4))∧A=ownR its∧G q l)
structure IqG (w0:World) (rb:Nat) (s:List UInt8) (M:Own) (b3 b4 b5:Nat) (o3 o4:Nat×Obj) (G:Nat→List Vl→Prop) (N i:Nat) (wb:World) (e:Env) (ds:List Deferred) (L:Own):Prop where
 hw:wb=w0
 hds:ds=[]
 he:RqE b3 b4 b5 rb 5 e
 h6:e 6=i64 i
 hi:i≤N
 o:∃ (q:Nat) (x:Rw) (its:List Rw) (l:List Vl),L=LcO x (ownR its) b5 o3 o4 (oRd rb s q 0 0) M∧x.OK∧x.n=i∧(∀ p∈x.own,w0.heap.size≤p.1)∧(∀ p∈ownR its,w0.heap.size≤p.1)∧q≤s.length∧l.length=i∧ZeK l its (x.cs.take (x.n * 4))∧G q l
structure IqX (w0:World) (rb:Nat) (s:List UInt8) (M:Own) (b3 b4 b5:Nat) (o3 o4:Nat×Obj) (r:PV (List Vl)) (c:UInt8) (wb:World) (e:Env) (ds:List Deferred) (L:Own):Prop where
 hw:wb=w0
 hds:ds=[]
 he:RqE b3 b4 b5 rb 5 e
 o:∃ (q:Nat) (er:Int) (bd:Nat) (x:Rw) (A:Own),L=LcO x A b5 o3 o4 (oRd rb s q er bd) M∧x.OK∧x.n≤4200∧(∀ p∈x.own,w0.heap.size≤p.1)∧(∀ p∈A,w0.heap.size≤p.1)∧RdM s q er bd r (∃ (l:List Vl) (its:List Rw),l.length=x.n∧ZeK l its (x.cs.take (x.n * 4))∧A=ownR its∧r=(mustV s [c] q).and fun _ q'=>.ok l q')
def itemsGo (s:List UInt8) (k wd:Int) (R:Nat→PV Vl) (r:PV (List Vl)) (q:Nat) (l:List Vl):Prop:=l.length≤4096∧(k=16→(l.length:Int)≤wd)∧r=(itemsV s k wd R (4200 - l.length) l.length q).and fun l' q=>.ok (l++l') q
def itemsNx (s:List UInt8) (k wd:Int) (R:Nat→PV Vl) (r:PV (List Vl)) (q:Nat) (l:List Vl):Prop:=l.length≤4096∧(k=16→(l.length:Int) < wd)∧r=(nextV s k wd R (4199 - l.length) l.length q).and fun l' q=>.ok (l++l') q
theorem itemsR_step (d:Nat) (hP:RvOK d) (wb w:World) (lo rb:Nat) (s:List UInt8) (p:Nat) (M:Own) (ind:Bool) (f:Fld) (a:Option Addr) (c:Nat) (hlo:lo≤wb.heap.size) (hok:okT (d+1) ind f) (hk:f.k=15∨f.k=16) (hA:FlAt wb lo f a c) (hs:s.length≤65536) (hp:p≤s.length) (hrb:wb.heap.size≤rb) (hM:∀ b∈M,wb.heap.size≤b.1) (hw:Sy wb (oRd rb s p 0 0::M) w) :
 Calls Tryz.prog 64 #[pPs rb,.agg (f.tcells a c).toArray] w (RdR wb rb s M ((mustV s [91] p).and fun _ r=>(itemsV s f.k f.wd (fun r=>match f.sub[0]? with|some g=>readV s d g r|none=>.no 8 r) 4200 0 r).and fun l r=>.ok (.mk false 0 [] l) r) VlS VfS):=by
 obtain ⟨fg,hg⟩:∃ g,f.sub[0]?=some g:=by
  have h1:=hok.1.1.2.2.2.1
  exact ⟨_,List.getElem?_eq_getElem (by rcases hk with hk|hk<;>rw[hk] at h1<;>simp[leastK] at h1<;>omega)⟩
 have hgm:=List.mem_of_getElem? hg
 have hokg:=hok.2 fg hgm
 have hpos:0 < f.sub.length:=(List.getElem?_eq_some_iff.1 hg).1
 have hwd:f.k=16→1≤f.wd∧f.wd≤64:=fun h=>by
  have h1:=hok.1.1.2.1
  rw[h] at h1
  exact h1
 obtain ⟨R,hR⟩:∃ R:Nat→PV Vl,(fun r=>match f.sub[0]? with|some g=>readV s d g r|none=>.no 8 r)=R:=⟨_,rfl⟩
 have hRg:∀ r,R r=readV s d fg r:=fun r=>by rw[← hR]; simp only[hg]
 rw[hR]
 refine enterB (args:=[pPs rb,.agg (f.tcells a c).toArray]) Tryz.func64 rfl Tryz.ntmps64 (congrArg Array.toList Tryz.results64) (by kernel_rfl) (by simp) hw ?_
 simp (disch:=omega) only[push_cast,qE,Fld.tcells]
 refine newI (fun b3 hb3 hn3=>?_)
 simp (disch:=omega) only[push_cast,qE,Fld.tcells]
 refine newI (fun b4 hb4 hn4=>?_)
 refine sp ?_
 refine newI (fun b5 hb5 hn5=>?_)
 refine sp ?_
 refine sXa 0 rfl Siz.eq rfl rfl ?_
 refine sp ?_
 obtain ⟨o3,ho3⟩:∃ o,o=(qb1 b3 f a c):=⟨_,rfl⟩
 obtain ⟨o4,ho4⟩:∃ o,o=(qb2 b4):=⟨_,rfl⟩
 have hM1:∀ {x:Rw} {A:Own},(∀ p∈x.own,wb.heap.size≤p.1)→(∀ p∈A,wb.heap.size≤p.1)→∀ b∈x.own++(A++oVn 0 b5 x.way::o3::o4::M),wb.heap.size≤b.1:=fun hx hA b hb=>by
  simp only[List.mem_append,qM] at hb
  rcases hb with hb|hb|rfl|rfl|rfl|hb
  ·exact hx b hb
  ·exact hA b hb
  ·exact hb5
  ·rw[ho3]; exact hb3
  ·rw[ho4]; exact hb4
  ·exact hM b hb
 refine callV en_95 (callX_weak (L':=LcO ⟨none,0,0,[]⟩ [] b5 o3 o4 (oRd rb s p 0 0) M) (fun w hw=>by rw[ho3,ho4]; exact hw.perm (List.Perm.cons _ (List.Perm.swap _ _ _))) (callX_ru (fun p e b K=>LcO ⟨none,0,0,[]⟩ [] b5 o3 o4 (oRd rb s p e b) (K++M)) (fun w' hw'=>mustR_ok wb w' rb s [91] p _ hs (by simp) hp hrb (hw'.perm (lc_to _ _ _ _ _ _ _))) (fun p e b K w hw=>hw.perm (lc_of _ _ _ _ _ _ _ _)) (fun q0 er0 bd0 v K hmd hK=>?_)))
 obtain ⟨rfl,rfl⟩:v=.tuple #[]∧K=[]:=by
  rcases hmd with ⟨x,_,_,h,_⟩|⟨_,_,h⟩<;>exact h
 obtain ⟨r0,hr0⟩:∃ r0,((mustV s [91] p).and fun _ r=>itemsV s f.k f.wd R 4200 0 r)=r0:=⟨_,rfl⟩
 have hgoal:((mustV s [91] p).and fun _ r=>(itemsV s f.k f.wd R 4200 0 r).and fun l r=>(.ok (Vl.mk false 0 [] l) r:PV Vl))=r0.and fun l r=>.ok (Vl.mk false 0 [] l) r:=by rw[← hr0,PV.and_and]
 rw[hgoal]
 refine sp ?_
 refine cutV (IqX wb rb s M b3 b4 b5 o3 o4 r0 93) ?_ ?_
 ·rw[Vb]
  refine sp ?_
  refine loopW (G:=Nat) (IqI wb rb s M b3 b4 b5 o3 o4 r0 (itemsGo s f.k f.wd R r0) 4200) (fun i=>4300 - i) 0 _ (fun w hw=>hw) (by kernel_rfl) ⟨rfl,rfl,⟨rfl,rfl,rfl,rfl⟩,rfl,by omega,q0,er0,bd0,⟨none,0,0,[]⟩,[],rfl,.inl ⟨rfl,rfl,rfl⟩,rfl,by simp[Rw.own],by simp,?_⟩ ?_
  ·rcases hmd with ⟨x,hr,hq,_,h1,h2⟩|⟨hr,he,_⟩
   ·refine .inl ⟨h1,h2,hq,[],[],rfl,ZeK.nil,rfl,by simp,fun h=>by have:=(hwd h).1; simp; omega,?_⟩
    rw[← hr0,hr,PV.and_ok]
    show _=(itemsV s f.k f.wd R 4200 0 q0).and _
    cases itemsV s f.k f.wd R 4200 0 q0<;>rfl
   ·exact .inr ⟨he,by rw[← hr0,hr,PV.and_no]⟩
  clear hw hmd hr0 hgoal hn3 hn4 hn5
  rintro i wb e ds L ⟨rfl,rfl,⟨h0,h3,h4,h5⟩,h6,hi,q,er,bd,x,A,rfl,hxok,hxn,hxo,hAo,hmd⟩
  simp (disch:=omega) only[push_cast,qE,h0]
  refine lOn Shp.eq lc_rd rfl ?_
  simp (disch:=omega) only[push_cast,qE,h0]
  rw[Vc]
  simp (disch:=omega) only[push_cast,qE,h0]
  rcases hmd with ⟨rfl,rfl,hq,l,its,hl,hZ,rfl,hl96,hw16,hr⟩|⟨her,hr⟩
  rotate_left
  ·refine cdD (fun h=>absurd h her) (fun _=>?_)
   refine sp ?_
   exact ⟨rfl,rfl,⟨h0,h3,h4,h5⟩,q,er,bd,x,A,rfl,hxok,by omega,hxo,hAo,.inr ⟨her,hr⟩⟩
  refine cdD (fun _=>?_) (fun h=>absurd rfl h)
  refine sp ?_
  rw[Vb,V_seq]
  have m3:∀ {x:Rw} {A:Own} {o:Nat×Obj},(qb1 b3 f a c)∈LcO x A b5 o3 o4 o M:=fun {x A o}=>by first|(rw[← ho3]; exact lc_o3)|(subst ho3; exact lc_o3)
  have e15:i=15∨True:=.inr trivial
  have close15:f.k=15→s[q]?=some 93→r0=(mustV s [93] q).and fun _ q'=>.ok l q':=fun hk h93=>by
   rw[hr,show 4200 - l.length=(4199 - l.length)+1 by omega,itemsV,if_neg (by omega),if_pos ⟨hk,h93⟩,mustV_yes (t:=[93]) (cons_drop h93),PV.and_ok,PV.and_ok,List.append_nil]
   rfl
  have close16:f.k=16→(l.length:Int)=f.wd→r0=(mustV s [93] q).and fun _ q'=>.ok l q':=fun hk hw=>by
   rw[hr,show 4200 - l.length=(4199 - l.length)+1 by omega,itemsV,if_pos ⟨hk,hw⟩,PV.and_and]
   simp only[PV.and_ok,List.append_nil]
  refine cutV (IqG wb rb s M b3 b4 b5 o3 o4 (fun q l=>itemsGo s f.k f.wd R r0 q l∧¬ (f.k=15∧l.length=0∧s[q]?=some 93)∧¬ (f.k=16∧(l.length:Int)=f.wd)) 4096 i) ?_ ?_
  ·simp (disch:=omega) only[push_cast,qE,h3,h6]
   refine lOn Shp.eq m3 rfl ?_
   rcases hk with hk|hk
   ·have dk15:decide (f.k=15)=true:=decide_eq_true hk
    have dk16:decide (f.k=16)=false:=decide_eq_false (by omega)
    simp (disch:=omega) only[push_cast,qE,h0,h3,h6,dk15,dk16]
    refine gT rfl (fun hi0=>?_) (fun hi0=>?_)
    ·simp (disch:=omega) only[push_cast,qE,h0,h3,h6,dk15,dk16]
     refine callV en_96 (cIs (fun w' hw'=>isR_walk w' rb s q 0 0 93 93 rfl (At.of_own hw' lc_rd rfl)) ?_)
     simp (disch:=omega) only[push_cast,qE,h0,h3,h6,dk15,dk16]
     refine gF rfl (fun h93=>?_) (fun h93=>?_)
     ·simp (disch:=omega) only[push_cast,qE,h0,h3,h6,dk15,dk16]
      refine lOn Shp.eq m3 rfl ?_
      simp (disch:=omega) only[push_cast,qE,h0,h3,h6,dk15,dk16]
      rw[Vc]
      simp (disch:=omega) only[push_cast,qE,h0,h3,h6,dk15,dk16]
      exact ⟨rfl,rfl,⟨h0,h3,h4,h5⟩,h6,by omega,q,x,its,l,rfl,hxok,hxn,hxo,hAo,hq,hl,hZ,⟨hl96,hw16,hr⟩,fun h=>h93 h.2.2,fun h=>by omega⟩
     ·simp (disch:=omega) only[push_cast,qE,h0,h3,h6,dk15,dk16]
      rw[Vc]
      refine sp ?_
      exact ⟨rfl,rfl,⟨h0,h3,h4,h5⟩,q,0,0,x,ownR its,rfl,hxok,by omega,hxo,hAo,.inl ⟨rfl,rfl,hq,l,its,by omega,hZ,rfl,close15 hk h93⟩⟩
    ·simp (disch:=omega) only[push_cast,qE,h0,h3,h6,dk15,dk16]
     refine lOn Shp.eq m3 rfl ?_
     simp (disch:=omega) only[push_cast,qE,h0,h3,h6,dk15,dk16]
     rw[Vc]
     simp (disch:=omega) only[push_cast,qE,h0,h3,h6,dk15,dk16]
     exact ⟨rfl,rfl,⟨h0,h3,h4,h5⟩,h6,by omega,q,x,its,l,rfl,hxok,hxn,hxo,hAo,hq,hl,hZ,⟨hl96,hw16,hr⟩,fun h=>hi0 (by omega),fun h=>by omega⟩
   ·have dk15:decide (f.k=15)=false:=decide_eq_false (by omega)
    have dk16:decide (f.k=16)=true:=decide_eq_true hk
    simp (disch:=omega) only[push_cast,qE,h0,h3,h6,dk15,dk16]
    refine lOn Shp.eq m3 rfl ?_
    simp (disch:=omega) only[push_cast,qE,h0,h3,h6,dk15,dk16]
    refine lOn Shp.eq m3 rfl ?_
    simp (disch:=omega) only[push_cast,qE,h0,h3,h6,dk15,dk16]
    rw[Vc]
    simp (disch:=omega) only[push_cast,qE,h0,h3,h6,dk15,dk16]
    refine cdD (fun hend=>?_) (fun hend=>?_)
    ·refine sp ?_
     exact ⟨rfl,rfl,⟨h0,h3,h4,h5⟩,q,0,0,x,ownR its,rfl,hxok,by omega,hxo,hAo,.inl ⟨rfl,rfl,hq,l,its,by omega,hZ,rfl,close16 hk (by omega)⟩⟩
    ·refine sp ?_
     exact ⟨rfl,rfl,⟨h0,h3,h4,h5⟩,h6,by omega,q,x,its,l,rfl,hxok,hxn,hxo,hAo,hq,hl,hZ,⟨hl96,hw16,hr⟩,fun h=>by omega,fun h=>hend (by omega)⟩
  clear h0 h3 h4 h5 h6 e close15 close16 hr hl96 hw16 hZ hl hAo hxo hxn hxok hq
  rintro wb e ds L ⟨rfl,rfl,⟨h0,h3,h4,h5⟩,h6,hi,q,x,its,l,rfl,hxok,hxn,hxo,hAo,hq,hl,hZ,⟨hl96,hw16,hr⟩,hn15,hn16⟩
  have close15:f.k=15→s[q]?=some 93→r0=(mustV s [93] q).and fun _ q'=>.ok l q':=fun hk h93=>by
   rw[hr,show 4200 - l.length=(4199 - l.length)+1 by omega,itemsV,if_neg (by omega),if_pos ⟨hk,h93⟩,mustV_yes (t:=[93]) (cons_drop h93),PV.and_ok,PV.and_ok,List.append_nil]
   rfl
  have comma:¬ (f.k=15∧s[q]?=some 93)→r0=(((if l.length=0 then .ok () q else mustV s [44] q:PV Unit)).and fun _ r=>nextV s f.k f.wd R (4199 - l.length) l.length r).and fun l' q=>.ok (l++l') q:=fun h=>by
   rw[hr,show 4200 - l.length=(4199 - l.length)+1 by omega,items_next hn16 h]
  have hlt16:f.k=16→(l.length:Int) < f.wd:=fun h=>by
   have h1:=hw16 h
   have h2:¬ (l.length:Int)=f.wd:=fun h3=>hn16 ⟨h,h3⟩
   omega
  have after:(0:Int) < i→¬ (f.k=15∧s[q]?=some 93)→∀ {q1:Nat} {er1:Int} {bd1:Nat} {v:Value} {K:Own},((∃ x,mustV s [44] q=.ok x q1∧q1≤s.length∧(v=.tuple #[]∧K=[])∧er1=0∧bd1=0)∨(mustV s [44] q=.no er1 bd1∧er1≠0∧(v=.tuple #[]∧K=[])))→RdM s q1 er1 bd1 r0 (∃ (l:List Vl) (its':List Rw),l.length=i∧ZeK l its' (x.cs.take (x.n * 4))∧ownR its=ownR its'∧itemsNx s f.k f.wd R r0 q1 l):=fun hp0 hno {q1 er1 bd1 v K} hmd=>by
   have hcm:=comma hno
   rw[if_neg (by omega)] at hcm
   rcases hmd with ⟨y,hr1,hq1,_,h1,h2⟩|⟨hr1,he,_⟩
   ·refine .inl ⟨h1,h2,hq1,l,its,hl,hZ,rfl,hl96,hlt16,?_⟩
    rw[hcm,hr1,PV.and_ok]
   ·exact .inr ⟨he,by rw[hcm,hr1,PV.and_no,PV.and_no]⟩
  rw[V_seq]
  refine cutV (IqI wb rb s M b3 b4 b5 o3 o4 r0 (itemsNx s f.k f.wd R r0) 4096 i) ?_ ?_
  ·simp (disch:=omega) only[push_cast,qE,h6]
   rw[Vc]
   simp (disch:=omega) only[push_cast,qE,h6]
   refine cdD (fun hp0=>?_) (fun hp0=>?_)
   ·simp (disch:=omega) only[push_cast,qE,h3]
    refine lOn Shp.eq m3 rfl ?_
    rcases hk with hk|hk
    ·have dk15:decide (f.k=15)=true:=decide_eq_true hk
     simp (disch:=omega) only[push_cast,qE,h0,dk15]
     refine callV en_96 (cIs (fun w' hw'=>isR_walk w' rb s q 0 0 93 93 rfl (At.of_own hw' lc_rd rfl)) ?_)
     simp (disch:=omega) only[push_cast,qE,h0]
     rw[Vc]
     simp (disch:=omega) only[push_cast,qE,h0]
     refine cdD (fun h93=>?_) (fun h93=>?_)
     ·refine sp ?_
      exact ⟨rfl,rfl,⟨h0,h3,h4,h5⟩,q,0,0,x,ownR its,rfl,hxok,by omega,hxo,hAo,.inl ⟨rfl,rfl,hq,l,its,by omega,hZ,rfl,close15 hk h93⟩⟩
     simp (disch:=omega) only[push_cast,qE,h0]
     refine callV en_95 (callX_ru (fun p e b K=>LcO x (ownR its) b5 o3 o4 (oRd rb s p e b) (K++M)) (fun w' hw'=>mustR_ok wb w' rb s [44] q _ hs (by simp) hq hrb (hw'.perm (lc_to _ _ _ _ _ _ _))) (fun p e b K w hw=>hw.perm (lc_of _ _ _ _ _ _ _ _)) (fun q1 er1 bd1 v K hmd hK=>?_))
     obtain ⟨rfl,rfl⟩:v=.tuple #[]∧K=[]:=by
      rcases hmd with ⟨x,_,_,h,_⟩|⟨_,_,h⟩<;>exact h
     refine sp ?_
     exact ⟨rfl,rfl,⟨h0,h3,h4,h5⟩,h6,hi,q1,er1,bd1,x,ownR its,rfl,hxok,hxn,hxo,hAo,after hp0 (fun h=>h93 h.2) hmd⟩
    ·have dk15:decide (f.k=15)=false:=decide_eq_false (by omega)
     simp (disch:=omega) only[push_cast,qE,h0,dk15]
     rw[Vc]
     simp (disch:=omega) only[push_cast,qE,h0]
     refine callV en_95 (callX_ru (fun p e b K=>LcO x (ownR its) b5 o3 o4 (oRd rb s p e b) (K++M)) (fun w' hw'=>mustR_ok wb w' rb s [44] q _ hs (by simp) hq hrb (hw'.perm (lc_to _ _ _ _ _ _ _))) (fun p e b K w hw=>hw.perm (lc_of _ _ _ _ _ _ _ _)) (fun q1 er1 bd1 v K hmd hK=>?_))
     obtain ⟨rfl,rfl⟩:v=.tuple #[]∧K=[]:=by
      rcases hmd with ⟨x,_,_,h,_⟩|⟨_,_,h⟩<;>exact h
     refine sp ?_
     exact ⟨rfl,rfl,⟨h0,h3,h4,h5⟩,h6,hi,q1,er1,bd1,x,ownR its,rfl,hxok,hxn,hxo,hAo,after hp0 (fun h=>by omega) hmd⟩
   ·refine sp ?_
    refine ⟨rfl,rfl,⟨h0,h3,h4,h5⟩,h6,hi,q,0,0,x,ownR its,rfl,hxok,hxn,hxo,hAo,.inl ⟨rfl,rfl,hq,l,its,hl,hZ,rfl,hl96,hlt16,?_⟩⟩
    have hcm:=comma (fun h=>hn15 ⟨h.1,by omega,h.2⟩)
    rw[if_pos (by omega),PV.and_ok] at hcm
    exact hcm
  clear h0 h3 h4 h5 h6 e close15 comma after hr hl96 hw16 hZ hl hAo hxo hxn hxok hq hn15 hn16 hlt16
  rintro wb e ds L ⟨rfl,rfl,⟨h0,h3,h4,h5⟩,h6,hi,q,er,bd,x,A,rfl,hxok,hxn,hxo,hAo,hmd⟩
  rw[V_seq]
  refine cutV (IqI wb rb s M b3 b4 b5 o3 o4 r0 (fun q l=>itemsNx s f.k f.wd R r0 q l∧¬ (f.k=15∧l.length=4096)) 4096 i) ?_ ?_
  ·simp (disch:=omega) only[push_cast,qE,h3]
   refine lOn Shp.eq m3 rfl ?_
   have keep:¬ (f.k=15∧i=4096)→RdM s q er bd r0 (∃ (l:List Vl) (its:List Rw),l.length=i∧ZeK l its (x.cs.take (x.n * 4))∧A=ownR its∧itemsNx s f.k f.wd R r0 q l∧¬ (f.k=15∧l.length=4096)):=fun h=>by
    rcases hmd with ⟨h1,h2,h3,l,its,h4,h5,h6,h7⟩|h1
    ·exact .inl ⟨h1,h2,h3,l,its,h4,h5,h6,h7,by rw[h4]; exact h⟩
    ·exact .inr h1
   rcases hk with hk|hk
   ·have dk15:decide (f.k=15)=true:=decide_eq_true hk
    simp (disch:=omega) only[push_cast,qE,h6,dk15]
    rw[Vc]
    simp (disch:=omega) only[push_cast,qE,h6]
    refine cdD (fun h96=>?_) (fun h96=>?_)
    ·simp (disch:=omega) only[push_cast,qE,h0]
     refine lOn Shp.eq lc_rd rfl ?_
     simp (disch:=omega) only[push_cast,qE,h0]
     rcases hmd with ⟨rfl,rfl,hq,l,its,hl,hZ,rfl,hl96,hlt16,hr⟩|⟨her,hr⟩
     ·refine callV en_30 (callX_own (S:=fun v L'=>v=.tuple #[]∧L'=LcO x (ownR its) b5 o3 o4 (oRd rb s q 3 q) M) (fun w' hw'=>(failR_ok wb w' rb s q 0 _ 3 q (hw'.perm (lc_to _ _ _ _ _ _ _))).mono fun e w2 ⟨v,L',k1,k2,k3,k4⟩=>⟨v,_,k1,(by rw[k4] at k2; exact k2.perm (lc_to _ _ _ _ _ _ _).symm),k3,rfl⟩) (fun v L' hv=>?_))
      obtain ⟨rfl,rfl⟩:=hv
      refine sp ?_
      refine ⟨rfl,rfl,⟨h0,h3,h4,h5⟩,h6,hi,q,3,q,x,ownR its,rfl,hxok,hxn,hxo,hAo,.inr ⟨by decide,?_⟩⟩
      rw[hr]
      unfold nextV
      rw[if_pos ⟨hk,by omega⟩]
      rfl
     ·refine callV en_30 (cIs (fun w' hw'=>failR_no w' rb s q bd 3 er q her (At.of_own hw' lc_rd rfl)) ?_)
      refine sp ?_
      exact ⟨rfl,rfl,⟨h0,h3,h4,h5⟩,h6,hi,q,er,bd,x,A,rfl,hxok,hxn,hxo,hAo,.inr ⟨her,hr⟩⟩
    ·refine sp ?_
     exact ⟨rfl,rfl,⟨h0,h3,h4,h5⟩,h6,hi,q,er,bd,x,A,rfl,hxok,hxn,hxo,hAo,keep (fun h=>h96 (by omega))⟩
   ·have dk15:decide (f.k=15)=false:=decide_eq_false (by omega)
    simp (disch:=omega) only[push_cast,qE,h6,dk15]
    rw[Vc]
    simp (disch:=omega) only[push_cast,qE,h6]
    exact ⟨rfl,rfl,⟨h0,h3,h4,h5⟩,h6,hi,q,er,bd,x,A,rfl,hxok,hxn,hxo,hAo,keep (fun h=>by omega)⟩
  clear h0 h3 h4 h5 h6 e hmd hAo hxo hxn hxok
  rintro wb e ds L ⟨rfl,rfl,⟨h0,h3,h4,h5⟩,h6,hi,q,er,bd,x,A,rfl,hxok,hxn,hxo,hAo,hmd⟩
  have hmq:er=0→bd=0∧q≤s.length:=fun h=>by
   rcases hmd with ⟨_,h1,h2,_⟩|⟨h1,_⟩
   ·exact ⟨h1,h2⟩
   ·exact absurd h h1
  have hM1:=hM1 hxo hAo
  have hsm:x.n+1≤1000000:=by omega
  have hBx:∀ o:Nat×Obj,wb.heap.size≤o.1→∀ b∈o3::o4::o::M,wb.heap.size≤b.1:=fun o ho b hb=>by
   simp only[qM] at hb
   rcases hb with rfl|rfl|rfl|hb
   ·rw[ho3]; exact hb3
   ·rw[ho4]; exact hb4
   ·exact ho
   ·exact hM b hb
  have hB0n:=hBx (oRd rb s q er bd) hrb
  have hBn:∀ g:GotV,∀ b∈o3::o4::oRd rb s g.p g.er g.bd::M,wb.heap.size≤b.1:=fun g=>hBx _ hrb
  obtain ⟨gb,goff,ga,gc,rfl,g1,g2,g3⟩:=hA.get hg
  rw[Nat.zero_mul,Nat.add_zero] at g2
  have hxn:=hxo
  have hin:=hAo
  refine sp ?_
  refine freeIT [0,2,3,4,5,6] [1,7,8,9,10,11] [(1,[]),(7,[]),(8,[7]),(9,[1,8]),(10,[9]),(11,[9,10])] [o3] (ZbR wb (o3::o4::oRd rb s q er bd::M) (fun g=>o3::o4::oRd rb s g.p g.er g.bd::M) x A (0) b5 (OutV s d fg q er bd) (fun e=>e 0=pPs rb∧e 3=.pointer (some ⟨b3,0,none⟩)∧e 4=.pointer (some ⟨b4,0,none⟩)∧e 5=.pointer (some ⟨b5,0,none⟩)∧e 6=i64 i∧e 63=.pointer (some ⟨b5,3,none⟩)∧e 65=pPs rb∧e 69=.agg (fg.cells ga gc).toArray) 64 70 71 72 73 1 7 8 9 10 11) (by kernel_rfl) mixed (by kernel_rfl) (by kernel_rfl) (fun D e ds L I=>stab_one (ZbS.base_mem (.head _) (fun _=>.head _) I.o) (I.o.new hB0n hBn hxn hin hb5)) ?_ ?_ (stab_one (qR _ (qR _ (.tail _ (.head _)))) (ZbS.new (s:=0) (e6:=zeroA) (e7:=zeroA) (e8:=zeroA) (Out:=OutV s d fg q er bd) (B:=fun g=>o3::o4::oRd rb s g.p g.er g.bd::M) hB0n hBn hxn hin hb5 rfl)) ?_
  ·intro z hz D e ds L hD hdep I
   obtain ⟨h0,h3,h4,h5,h6,eA,eR,eC⟩:=I.he
   obtain rfl:=I.hds
   simp only[qM,qI,or_false] at hz
   rcases hz with rfl|rfl|rfl|rfl|rfl|rfl
   all_goals simp only[qM,qI,or_false,forall_eq_or_imp,forall_eq,false_implies,implies_true] at hD hdep
   ·simp (disch:=omega) only[push_cast,qE,eA]
    refine lOn Shp.eq (I.v_mem (I.off1 hD)) rfl ?_
    refine sp ?_
    exact ⟨_,fun w hw=>hw,I.s1 hD ⟨us h0,us h3,us h4,us h5,us h6,us eA,us eR,us eC⟩ (by decide) (by decide) (by decide)⟩
   ·obtain rfl:=I.zero hD
    simp (disch:=omega) only[push_cast,qE,eR,eC]
    refine callV en_29 (callX_own (fun w' hw'=>valueR_any hP wb w' lo rb s q er bd (x.own++(A++oVn (0) b5 x.way::o3::o4::M)) _ fg ga gc hlo hokg g3 hs hmq hrb hM1 (hw'.perm (pC))) (fun u L' hu=>?_))
    obtain ⟨g,hg,hgK,rfl,rfl⟩:=hu
    refine sp ?_
    exact ⟨g.K++(x.own++(A++oVn (0) b5 x.way::o3::o4::oRd rb s g.p g.er g.bd::M)),fun w hw=>hw.perm (pC),I.s6 hD hg hgK ⟨us h0,us h3,us h4,us h5,us h6,us eA,us eR,us eC⟩ (by decide) (by decide) (by decide)⟩
   ·obtain ⟨g,hg,hgK,e6,hL7⟩:=I.call hdep hD
    simp (disch:=omega) only[push_cast,qE,e6,Vl.cells]
    refine bs_27_1 (newI fun b7 hb7 hn7=>?_)
    refine sp ?_
    exact ⟨_,fun w hw=>hw,I.s7 hdep hD hg hgK hb7 hL7 ⟨us h0,us h3,us h4,us h5,us h6,us eA,us eR,us eC⟩ (by decide) (by decide) (by decide)⟩
   ·have e1:=I.d1 hdep.1
    simp (disch:=omega) only[push_cast,qE,e1]
    refine ZbS.app (I.row hdep.2 hD) hxok hxn hsm (fun x' L' L'' hsub hz=>?_)
    refine sp ?_
    exact ⟨L'',hsub,I.s8 hdep.1 hdep.2 hD hz ⟨us h0,us h3,us h4,us h5,us h6,us eA,us eR,us eC⟩ (by decide) (by decide) (by decide)⟩
   ·simp (disch:=omega) only[push_cast,qE,h5]
    exact ⟨_,fun w hw=>hw,I.s9 ⟨us h0,us h3,us h4,us h5,us h6,us eA,us eR,us eC⟩ (by decide) (by decide)⟩
   ·obtain ⟨g,x',hg,hgK,r3,r4,r5,r6,e8,rfl⟩:=I.app hdep.1 hD
    have eS:=I.d9 hdep.2
    simp (disch:=omega) only[push_cast,qE,eS,e8,oVn]
    refine stX 0 rfl Siz.eq rfl rfl (by simp[Value.oneCell',Rw.way]) (by simp) ?_
    refine sp ?_
    exact ⟨_,fun w hw=>hw,I.s10 hdep.1 hg hgK r3 r4 r5 r6 (by decide) (by decide)⟩
  ·intro D e ds L hD I
   obtain ⟨h0,h3,h4,h5,h6,eA,eR,eC⟩:=I.he
   obtain rfl:=I.hds
   obtain ⟨g,x',hg,hgK,r3,r4,r5,r6,rfl⟩:=I.done (hD 11 (by simp))
   simp (disch:=omega) only[push_cast,qE,h6]
   refine ⟨i+1,LcO x' (A++g.K) b5 o3 o4 (oRd rb s g.p g.er g.bd) M,fun w hw=>hw.perm (pC),⟨rfl,rfl,⟨h0,h3,h4,h5⟩,i64_eq (by omega),by omega,g.p,g.er,g.bd,x',A++g.K,rfl,r3,by omega,r6,fun b hb=>(List.mem_append.1 hb).elim (hAo b) (hgK b),?_⟩,by omega⟩
   rcases hmd with ⟨he0,hb0,hq,l,its,hl,hZ,rfl,⟨hl96,hlt16,hr⟩,hn96⟩|⟨her,hr⟩
   ·have hnx:nextV s f.k f.wd R (4199 - l.length) l.length q=(readV s d fg q).and fun v r2=>(itemsV s f.k f.wd R (4199 - l.length) (l.length+1) r2).and fun l r3=>.ok (v::l) r3:=by unfold nextV; rw[if_neg hn96,hRg]
    rcases hg.1 he0 with ⟨k1,k2,k3,k4,its2,k5,k6⟩|⟨k1,k2⟩
    ·refine .inl ⟨k1,k2,k3,l++[g.y],its++its2,by simp; omega,by rw[r5]; exact ZeK.append (ZeK.single k5) hZ,by rw[k6,ownR_append],?_,fun h=>?_,?_⟩
     ·have:¬ l.length=4096∨f.k=16:=by
       rcases hk with hk|hk
       ·exact .inl fun h=>hn96 ⟨hk,h⟩
       ·exact .inr hk
      simp only[List.length_append,List.length_cons,List.length_nil]
      rcases this with h|h
      ·omega
      ·have h1:=hlt16 h; have h2:=hwd h; omega
     ·have:=hlt16 h
      simp only[List.length_append,List.length_cons,List.length_nil]
      omega
     ·rw[hr,hnx,k4,PV.and_ok,PV.and_and,show 4200 - (l++[g.y]).length=4199 - l.length by simp,show (l++[g.y]).length=l.length+1 by simp]
      simp only[PV.and_ok,List.append_assoc,List.singleton_append]
    ·exact .inr ⟨k1,by rw[hr,hnx,k2,PV.and_no,PV.and_no]⟩
   ·obtain ⟨k1,k2⟩:=hg.2 her
    exact .inr ⟨by rw[k1]; exact her,by rw[k1,k2]; exact hr⟩
  ·simp (disch:=omega) only[push_cast,qE,h0,h3,h5,h6]
   refine lOn Shp.eq (by rw[ho3]; exact .head _) rfl ?_
   simp (disch:=omega) only[push_cast,qE,h0,h3,h5,h6]
   refine ldAggF Shp.eq g2 rfl (out_of (fun b hb=>Nat.lt_of_lt_of_le (Nat.lt_of_lt_of_le g1 hlo) (hB0n b (by rw[List.mem_singleton.1 hb]; exact .head _)))) ?_
   simp (disch:=omega) only[push_cast,qE,h0,h3,h5,h6,Fld.cells]
   exact ⟨rfl,⟨h0,h3,h4,h5,h6,rfl,rfl,rfl⟩,(fun h=>by simp at h),(by simp),rfl,(fun h=>by simp at h)⟩
 clear hmd hr0 hgoal
 rintro wb e ds L ⟨rfl,rfl,⟨h0,h3,h4,h5⟩,q,er,bd,x,A,rfl,hxok,hxn,hxo,hAo,hmd⟩
 have fin:∀ (q1:Nat) (er1:Int) (bd1:Nat) (o:Obj) (w':World),Sy wb ((b4,o)::oRd rb s q1 er1 bd1::(x.own++(A++oVn 0 b5 x.way::o3::M))) w'→Sy wb (oRd rb s q1 er1 bd1::((x.own++A)++M)) w':=fun q1 er1 bd1 o w' hw'=>by
  have h1:Sy wb ([(b4,o),oVn 0 b5 x.way,o3]++(oRd rb s q1 er1 bd1::((x.own++A)++M))) w':=hw'.perm (pC)
  exact h1.left (fun b hb=>by
   simp only[qM,qI,or_false] at hb
   rcases hb with rfl|rfl|rfl
   ·exact hb4
   ·exact hb5
   ·rw[ho3]; exact hb3)
 have hKn:∀ b∈x.own++A,wb.heap.size≤b.1:=fun b hb=>(List.mem_append.1 hb).elim (hxo b) (hAo b)
 have hVf:VfS (.agg #[.bool false,i64 0,str [],x.way]) (x.own++A):=⟨.mk false 0 [] (List.replicate x.n (.mk false 0 [] [])),x.at_,x.c,way_cells (by simp)⟩
 have out:∀ (q1:Nat) (er1:Int) (bd1:Nat) {K:Own→Prop},K ((b4,Obj.cells #[.bool false,i64 0,str [],x.way] 29 (0,0))::oRd rb s q1 er1 bd1::(x.own++(A++oVn 0 b5 x.way::o3::M)))→StoreX Tryz.prog 29 (.pointer (some ⟨b4,0,none⟩)) (.agg #[.bool false,i64 0,str [],x.way]) wb (LcO x A b5 o3 o4 (oRd rb s q1 er1 bd1) M) (tag K):=fun q1 er1 bd1 {K} hK=>by
  refine storeX_weak (L':=(qb2 b4)::oRd rb s q1 er1 bd1::(x.own++(A++oVn 0 b5 x.way::o3::M))) (fun w hw=>by first|(rw[← ho4]; exact hw.perm (pC))|(subst ho4; exact hw.perm (pC))) (stX 0 rfl Siz.eq rfl rfl (by simp[Value.oneCell',Rw.way]) (by simp) ?_)
  exact hK
 simp (disch:=omega) only[push_cast,qE,h0]
 rcases hmd with ⟨rfl,rfl,hq,l,its,hl,hZ,rfl,hr⟩|⟨her,hr⟩
 ·refine callV en_95 (callX_ru (fun p e b K=>LcO x (ownR its) b5 o3 o4 (oRd rb s p e b) (K++M)) (fun w' hw'=>mustR_ok wb w' rb s [93] q _ hs (by simp) hq hrb (hw'.perm (lc_to _ _ _ _ _ _ _))) (fun p e b K w hw=>hw.perm (lc_of _ _ _ _ _ _ _ _)) (fun q1 er1 bd1 v K hmd hK=>?_))
  obtain ⟨rfl,rfl⟩:v=.tuple #[]∧K=[]:=by
   rcases hmd with ⟨x,_,_,h,_⟩|⟨_,_,h⟩<;>exact h
  simp (disch:=omega) only[push_cast,qE,h5]
  refine lAg Shp.eq lc_v rfl rfl ?_
  simp (disch:=omega) only[push_cast,qE,h4]
  refine out q1 er1 bd1 ?_
  simp (disch:=omega) only[push_cast,qE,h4]
  refine lAg Shp.eq mem0 rfl rfl ?_
  refine sp ?_
  refine fun w' hw'=>?_
  have hw2:=fin q1 er1 bd1 _ w' hw'
  rcases hmd with ⟨y,hr1,hq1,_,rfl,rfl⟩|⟨hr1,he,_⟩
  ·refine RdR.good (x:=.mk false 0 [] l) (q:=q1) _ (x.own++ownR its) (by rw[hr,hr1,PV.and_ok,PV.and_ok]) hq1 ⟨x::its,x.at_,x.c,zeV_list (by simp) (by decide) hxok hl.symm hZ,way_cells hl.symm,(ownR_cons _ _).symm⟩ hKn hw2
  ·exact RdR.bad _ (x.own++ownR its) (by rw[hr,hr1,PV.and_no,PV.and_no]) he hVf hKn hw2
 ·refine callV en_95 (cIs (fun w' hw'=>mustR_no w' rb s [93] q bd er her (At.of_own hw' lc_rd rfl)) ?_)
  simp (disch:=omega) only[push_cast,qE,h5]
  refine lAg Shp.eq lc_v rfl rfl ?_
  simp (disch:=omega) only[push_cast,qE,h4]
  refine out q er bd ?_
  simp (disch:=omega) only[push_cast,qE,h4]
  refine lAg Shp.eq mem0 rfl rfl ?_
  refine sp ?_
  exact fun w' hw'=>RdR.bad _ (x.own++A) (by rw[hr,PV.and_no]) her hVf hKn (fin q er bd _ w' hw')
end Go.Proofs.YtilejcofleeeiaaGreatDoor
