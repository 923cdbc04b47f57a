/- YtilejcofleeeiaaGreatDoor: walks, part 237: a parser: choices. -/
import Derived.Test.YtilejcofleeeiaaGreatDoorW260
namespace Go.Proofs.YtilejcofleeeiaaGreatDoor
open Go Go.K
open Nat renaming reduceEqDiff → qE
open List renaming mem_cons → qM, length_cons → qN, length_append → qA, mem_nil_iff → qI, getElem?_eq_getElem → qH
set_option maxRecDepth 100000
set_option linter.unusedVariables false
set_option linter.unusedSimpArgs false
set_option maxHeartbeats 4000000
theorem ldX_eq {P:Program} {t:TypeId} {wb:World} {b off:Nat} {v:Value} (ht:shapeOf P t=some (false,1)) (ha:At wb b off [v]) (K:Value→Prop):LoadX P t (.pointer (some ⟨b,off,none⟩)) wb [] (tag K)=K v :=
 propext ⟨fun ⟨u,h1,hk⟩=>by
  obtain ⟨u',h3,rfl⟩:=ldF (L:=[]) (K:=fun x=>x=v) ht ha (by simp) rfl
  have h4:=(h1 wb (Sy.refl wb)).symm.trans (h3 wb (Sy.refl wb))
  injection h4 with h5
  rw[← h5]
  exact hk,fun hk=>ldF ht ha (by simp) hk⟩
theorem dle_t {a b:Int} (h:a≤b):decide (a≤b)=true:=decide_eq_true h
theorem dle_f {a b:Int} (h:b < a):decide (a≤b)=false:=decide_eq_false (by omega)
theorem dlt_t {a b:Int} (h:a < b):decide (a < b)=true:=decide_eq_true h
theorem dlt_f {a b:Int} (h:b≤a):decide (a < b)=false:=decide_eq_false (by omega)
theorem deq_t {a b:Int} (h:a=b):decide (a=b)=true:=decide_eq_true h
theorem deq_f {a b:Int} (h:a≠b):decide (a=b)=false:=decide_eq_false h
abbrev smC (s:List UInt8) (i:Nat):Prop:=i < s.length∧(48≤(s.getD i 0).toNat∧(s.getD i 0).toNat≤57∨97≤(s.getD i 0).toNat∧(s.getD i 0).toNat≤122∨(s.getD i 0).toNat=45)
structure RrI (w0:World) (rb:Nat) (s:List UInt8) (q:Nat) (i:Nat) (wb:World) (e:Env) (ds:List Deferred) (L:Own):Prop where
 hw:wb=w0
 hds:ds=[]
 o:L=[]
 hi:i≤s.length
 hq:runP smallB s i=q
 h0:e 0=pPs rb
 h3:e 3=i64 i
structure RrC (w0:World) (rb:Nat) (s:List UInt8) (i:Nat) (wb:World) (e:Env) (ds:List Deferred) (L:Own):Prop where
 hw:wb=w0
 hds:ds=[]
 o:L=[]
 h0:e 0=pPs rb
 h3:e 3=i64 i
 h59:e 59=.bool (decide (smC s i))
theorem rowR_walk (w:World) (rb:Nat) (s:List UInt8) (p:Nat) (e0:Int) (bd:Nat) (hs:s.length≤65536) (hp:p≤s.length) (hat:At w rb 0 [str s,i64 p,i64 e0,i64 bd]) :
 Calls Tryz.prog 56 #[pPs rb] w (Rets w (Is (str (rowP smallB s p)))):=by
 refine enterT (args:=[pPs rb]) Tryz.func56 rfl Tryz.ntmps56 (congrArg Array.toList Tryz.results56) (by kernel_rfl) (by simp) (Sy.refl w) ?_
 have a0:At w rb 0 [str s]:=hat.sub 0 [str s] rfl
 have a1:At w rb 1 [i64 p]:=hat.sub 1 [i64 p] rfl
 refine sp ?_
 refine ldF Shp.eq a1 (by simp) ?_
 refine sp ?_
 rw[Vb]
 refine sp ?_
 refine loopW (G:=Nat) (RrI w rb s (runP smallB s p)) (fun i=>s.length - i) p _ (fun w hw=>hw) (by kernel_rfl) ⟨rfl,rfl,rfl,hp,rfl,rfl,rfl⟩ ?_
 rintro i wb e ds L ⟨rfl,rfl,rfl,hi,hq,h0,h3⟩
 rw[V_seq,V_seq]
 refine cutV (RrC wb rb s i) ?_ ?_
 ·have l0:=ldX_eq (P:=Tryz.prog) (t:=9) Shp.eq a0
  rcases Nat.lt_or_ge i s.length with hlt|hge
  ·obtain ⟨C,hC⟩:∃ C:Int,((s.getD i 0).toNat:Int)=C:=⟨_,rfl⟩
   have hcls:(48≤C∧C≤57)∨(97≤C∧C≤122)∨C=45∨(C < 48∧C≠45)∨(57 < C∧C < 97)∨122 < C:=by omega
   rcases hcls with h|h|h|h|h|h
   all_goals
    simp (maxSteps:=1000000) (disch:=omega) only[push_cast,qE,h0,h3,l0,hC,dle_t,dle_f,dlt_t,dlt_f,deq_t,deq_f]
    refine ⟨rfl,rfl,rfl,h0,h3,?_⟩
    first|exact is_t (by omega)|exact is_f (by omega)
  ·simp (maxSteps:=1000000) (disch:=omega) only[push_cast,qE,h0,h3,l0,dle_t,dle_f,dlt_t,dlt_f,deq_t,deq_f]
   exact ⟨rfl,rfl,rfl,h0,h3,is_f (by omega)⟩
 clear h0 h3 e
 rintro wb e ds L ⟨rfl,rfl,rfl,h0,h3,h59⟩
 try simp (disch:=omega) only[push_cast,qE,h59]
 rw[Vc]
 simp (disch:=omega) only[push_cast,qE,h59]
 refine cdD (fun hb=>?_) (fun hb=>?_)
 ·have hc:smallB (s.getD i 0)=true:=by unfold smallB; exact decide_eq_true (by omega)
  have hat':=getD_at (s:=s) (i:=i) hb.1
  simp (disch:=omega) only[push_cast,qE,h3]
  rw[Vb]
  simp (disch:=omega) only[push_cast,qE,h3]
  exact ⟨i+1,_,fun w hw=>hw,⟨rfl,rfl,rfl,by omega,by rw[← hq]; exact (runP_step hat' hc).symm,h0,i64_eq (by omega)⟩,by omega⟩
 ·have hi2:runP smallB s i=i:=by
   rcases Nat.lt_or_ge i s.length with h|h
   ·have hc:smallB (s.getD i 0)=false:=by unfold smallB; exact decide_eq_false (by omega)
    exact runP_stop (getD_at h) hc
   ·exact runP_end h
  have hqi:p≤i:=by have:=runP_ge smallB s p; omega
  simp (disch:=omega) only[push_cast,qE,h0,h3]
  refine drawQT (by kernel_rfl) (by kernel_rfl) mixed (by kernel_rfl) ?_
  simp (disch:=omega) only[push_cast,qE,h0,h3]
  refine ldF Shp.eq a0 (by simp) ?_
  simp (disch:=omega) only[push_cast,qE,h0,h3]
  refine ldF Shp.eq a1 (by simp) ?_
  simp (disch:=omega) only[push_cast,qE,h0,h3,Int.toNat_natCast]
  exact finIs (by simp) (by rw[rowP_eq,← hq,hi2])
abbrev goC (s:List UInt8) (i:Nat):Prop:=i < s.length∧((s.getD i 0).toNat=40∨(s.getD i 0).toNat=95∨65≤(s.getD i 0).toNat∧(s.getD i 0).toNat≤90)
theorem goesOn_walk (w:World) (rb:Nat) (s:List UInt8) (p q:Nat) (e0:Int) (bd:Nat) (hat:At w rb 0 [str s,i64 p,i64 e0,i64 bd]) :
 Calls Tryz.prog 57 #[pPs rb,i64 q] w (Rets w (Is (.bool (decide (goC s q))))):=by
 refine enterT (args:=[pPs rb,i64 q]) Tryz.func57 rfl Tryz.ntmps57 (congrArg Array.toList Tryz.results57) (by kernel_rfl) (by simp) (Sy.refl w) ?_
 have a0:At w rb 0 [str s]:=hat.sub 0 [str s] rfl
 have l0:=ldX_eq (P:=Tryz.prog) (t:=9) Shp.eq a0
 rcases Nat.lt_or_ge q s.length with hlt|hge
 ·obtain ⟨C,hC⟩:∃ C:Int,((s.getD q 0).toNat:Int)=C:=⟨_,rfl⟩
  have hcls:C=40∨C=95∨(65≤C∧C≤90)∨(C < 65∧C≠40)∨(90 < C∧C≠95):=by omega
  rcases hcls with h|h|h|h|h
  all_goals
   simp (maxSteps:=1000000) (disch:=omega) only[push_cast,qE,l0,hC,dle_t,dle_f,dlt_t,dlt_f,deq_t,deq_f]
   refine finIs (by simp) ?_
   first|exact is_t (by omega)|exact is_f (by omega)
 ·simp (maxSteps:=1000000) (disch:=omega) only[push_cast,qE,l0,dle_t,dle_f,dlt_t,dlt_f,deq_t,deq_f]
  exact finIs (by simp) (is_f (by omega))
theorem tw_stop (f:UInt8→Bool):∀ (l:List UInt8),(l.takeWhile f).length < l.length→f (l.getD (l.takeWhile f).length 0)=false
 | [],h=>by simp at h
 | c::l,h=>by
  rw[List.takeWhile_cons] at h ⊢
  cases hc:f c with
  | false=>simp[hc]
  | true =>
   simp only[hc,if_true,qN] at h ⊢
   rw[List.getD_cons_succ]
   exact tw_stop f l (by omega)
theorem runP_at {f:UInt8→Bool} {s:List UInt8} {p:Nat} (h:runP f s p < s.length):f (s.getD (runP f s p) 0)=false:=by
 unfold runP at h ⊢
 have:=tw_stop f (s.drop p) (by rw[List.length_drop]; omega)
 rw[List.getD_eq_getElem?_getD,List.getElem?_drop] at this
 rw[List.getD_eq_getElem?_getD]
 exact this
theorem goC_opens {s:List UInt8} {p:Nat}:decide (goC s (runP smallB s p))=opensB s (runP smallB s p):=by
 obtain ⟨q,hq⟩:∃ q,runP smallB s p=q:=⟨_,rfl⟩
 rw[hq]
 unfold opensB
 rcases Nat.lt_or_ge q s.length with h|h
 ·have hg:=getD_at h
  rw[hg]
  have hns:smallB (s.getD q 0)=false:=by rw[← hq]; exact runP_at (by omega)
  unfold smallB at hns
  have hn:=of_decide_eq_false hns
  unfold nameB
  rw[Bool.eq_iff_iff]
  simp only[Bool.or_eq_true,decide_eq_true_eq]
  constructor
  ·rintro ⟨_,h1⟩
   rcases h1 with h1|h1|h1
   ·exact .inl h1
   ·exact .inr (by omega)
   ·exact .inr (by omega)
  ·rintro (h1|h1)
   ·exact ⟨h,.inl h1⟩
   ·exact ⟨h,by omega⟩
 ·rw[List.getElem?_eq_none h]
  exact decide_eq_false (by omega)
structure KiI (w0:World) (pb:Nat) (s:List UInt8) (M:Own) (b3:Nat) (fs:List Fld) (a:Option Addr) (c:Nat) (R:Fld→Nat→PV Vl) (r:PV (List Vl)) (i:Nat) (wb:World) (e:Env) (ds:List Deferred) (L:Own):Prop where
 hw:wb=w0
 hds:ds=[]
 h0:e 0=pPs pb
 h3:e 3=.pointer (some ⟨b3,0,none⟩)
 h12:e 12=.slice a fs.length c
 h13:e 13=i64 fs.length
 h14:e 14=i64 i
 o:∃ (q:Nat) (l:List Vl) (x:Rw) (its:List Rw),q≤s.length∧l.length=i∧x.OK∧x.n=l.length∧ZeK l its (x.cs.take (x.n * 4))∧(∀ p∈x.own,w0.heap.size≤p.1)∧(∀ p∈ownR its,w0.heap.size≤p.1)∧e 5=x.way∧L=oPs pb s q::((x.own++ownR its)++M)∧r=(kidsV s R (decide (i=0)) (fs.drop i) q).and fun l' q=>.ok (l++l') q
 hi:i≤fs.length
structure KiJ (w0:World) (pb:Nat) (s:List UInt8) (N:Own) (b3 b7:Nat) (o7:Nat×Obj) (fs:List Fld) (a:Option Addr) (c:Nat) (g:Fld) (R:Fld→Nat→PV Vl) (r:PV (List Vl)) (l:List Vl) (x:Rw) (its:List Rw) (wb:World) (e:Env) (ds:List Deferred) (L:Own):Prop where
 hw:wb=w0
 hds:ds=[]
 h0:e 0=pPs pb
 h3:e 3=.pointer (some ⟨b3,0,none⟩)
 h5:e 5=.slice x.at_ l.length x.c
 h7:e 7=.pointer (some ⟨b7,0,none⟩)
 h12:e 12=.slice a fs.length c
 h13:e 13=i64 fs.length
 h14:e 14=i64 l.length
 o:∃ q:Nat,q≤s.length∧L=o7::oPs pb s q::((x.own++ownR its)++N)∧r=((mustV s (g.nm++[58]) q).and fun _ q=>(R g q).and fun v q=>(kidsV s R false (fs.drop (l.length+1)) q).and fun l' q=>.ok (v::l') q).and fun l' q=>.ok (l++l') q
theorem children_step (d:Nat) (hP:PaOK d) (wb w:World) (lo pb:Nat) (s:List UInt8) (p:Nat) (M:Own) (ind:Bool) (f:Fld) (a:Option Addr) (c:Nat) (hl:LibV wb) (hTb:TabsAt wb) (hlo:lo≤wb.heap.size) (hok:okT (d+1) ind f) (hk:f.k=17) (hA:FlAt wb lo f a c) (hs:s.length≤65536) (hp:p≤s.length) (hpb:wb.heap.size≤pb) (hM:∀ b∈M,wb.heap.size≤b.1) (hw:Sy wb (oPs pb s p::M) w) :
 Calls Tryz.prog 73 #[pPs pb,.agg (f.tcells a c).toArray] w (PVR wb pb s M ((mustV s [123] p).and fun _ r=>kidsV s (readV s d) true f.sub r) LsS):=by
 have hmost:f.sub.length≤32:=by
  have h1:=hok.1.1.2.2.2.2
  rw[hk] at h1
  simp[mostK] at h1
  omega
 obtain ⟨R,hR⟩:∃ R,readV s d=R:=⟨_,rfl⟩
 rw[hR]
 refine enterB (args:=[pPs pb,.agg (f.tcells a c).toArray]) Tryz.func73 rfl Tryz.ntmps73 (congrArg Array.toList Tryz.results73) (by kernel_rfl) (by simp) hw ?_
 simp (disch:=omega) only[push_cast,qE,Fld.tcells]
 refine newI (fun b3 hb3 hn3=>?_)
 simp (disch:=omega) only[push_cast,qE,Fld.tcells]
 obtain ⟨o3,ho3⟩:∃ o,o=(qb1 b3 f a c):=⟨_,rfl⟩
 have hM3:∀ b∈o3::M,wb.heap.size≤b.1:=fun b hb=>by
  rcases List.mem_cons.1 hb with rfl|hb
  ·rw[ho3]; exact hb3
  ·exact hM b hb
 refine callV en_101 (callX_weak (L':=oPs pb s p::o3::M) (fun w hw=>by rw[ho3]; exact hw.perm (List.Perm.swap _ _ _)) (callX_pv (M:=o3::M) (fun w' hw'=>must_walk wb w' pb s p (o3::M) 123 123 rfl hs hp hpb hw') (fun x q v K hr hq hS hK=>?_) (fun er q K hr hK=>?_)))
 rotate_left
 ·refine sp ?_
  exact fun w' hw'=>PVR.fall (K++[o3]) (by rw[hr,PV.and_no]) (fun b hb=>by
   rcases List.mem_append.1 hb with hb|hb
   ·exact hK b hb
   ·rw[List.mem_singleton.1 hb]; exact hM3 _ (.head _)) (by simpa [List.append_assoc] using hw')
 obtain ⟨rfl,rfl⟩:=hS
 rw[hr,PV.and_ok]
 obtain ⟨r0,hr0⟩:∃ r0,kidsV s R true f.sub q=r0:=⟨_,rfl⟩
 rw[hr0]
 refine sp ?_
 refine lOn Shp.eq (by rw[ho3]; exact mem1) rfl ?_
 refine sp ?_
 rw[Vb]
 refine sp ?_
 refine loopW (G:=Nat) (KiI wb pb s (o3::M) b3 f.sub a c R r0) (fun i=>f.sub.length - i) 0 _ (fun w hw=>hw) (by kernel_rfl) ⟨rfl,rfl,rfl,rfl,rfl,rfl,rfl,⟨q,[],⟨none,0,0,[]⟩,[],hq,rfl,.inl ⟨rfl,rfl,rfl⟩,rfl,ZeK.nil,by simp[Rw.own],by simp[ownR],rfl,rfl,?_⟩,by omega⟩ ?_
 ·simp only[List.nil_append]
  rw[← hr0]
  show _=(kidsV s R true f.sub q).and _
  cases kidsV s R true f.sub q<;>rfl
 clear hw hr hn3 hr0
 rintro i wb e ds L ⟨rfl,rfl,h0,h3,h12,h13,h14,⟨q,l,x,its,hq,hli,hx,hxl,hZ,hxn,hin,h5,rfl,hr⟩,hi⟩
 subst hli
 replace h5:e 5=.slice x.at_ x.n x.c:=h5
 rw[hxl] at h5
 have hZn:∀ b∈x.own++ownR its,wb.heap.size≤b.1:=fun b hb=>(List.mem_append.1 hb).elim (hxn b) (hin b)
 simp (disch:=omega) only[push_cast,qE,h12,h13,h14]
 rw[Vc]
 simp (disch:=omega) only[push_cast,qE,h12,h13,h14]
 refine cdD (fun hlt=>?_) (fun hge=>?_)
 rotate_left
 ·have hle:f.sub.drop l.length=[]:=List.drop_eq_nil_iff.2 (by omega)
  rw[hle,kidsV] at hr
  simp (disch:=omega) only[push_cast,qE,h0,h5]
  refine callV en_101 (callX_pv (M:=(x.own++ownR its)++o3::M) (fun w' hw'=>must_walk wb w' pb s q ((x.own++ownR its)++o3::M) 125 125 rfl hs hq hpb hw') (fun u q1 v K hr1 hq1 hS hK=>?_) (fun er q1 K hr1 hK=>?_))
  ·obtain ⟨rfl,rfl⟩:=hS
   simp (disch:=omega) only[push_cast,qE,h5]
   refine fun w' hw'=>PVR.leaf (x:=l) (q:=q1) _ (x.own++ownR its) (by rw[hr,hr1]; simp only[PV.and_ok,List.append_nil]) hq1 ⟨x,its,hx,hxl,hZ,by rw[← hxl]; rfl,rfl⟩ hZn ?_
   exact (by simpa [List.append_assoc] using hw':Sy wb ((oPs pb s q1::(x.own++ownR its))++([o3]++M)) w').mid (oPs pb s q1::(x.own++ownR its)) [o3] (fun b hb=>by rw[List.mem_singleton.1 hb]; exact hM3 _ (.head _))
  ·refine sp ?_
   exact fun w' hw'=>PVR.fall (K++((x.own++ownR its)++[o3])) (by rw[hr,hr1]; rfl) (fun b hb=>by
    rcases List.mem_append.1 hb with hb|hb
    ·exact hK b hb
    ·rcases List.mem_append.1 hb with hb|hb
     ·exact hZn b hb
     ·rw[List.mem_singleton.1 hb]; exact hM3 _ (.head _)) (by simpa [List.append_assoc] using hw')
 obtain ⟨g,hg⟩:∃ g,f.sub[l.length]?=some g:=⟨_,qH (by omega)⟩
 have hgm:=List.mem_of_getElem? hg
 have hnm:=((hok.2 g hgm).name).2.2
 obtain ⟨gb,goff,ga,gc,rfl,g1,g2,g3⟩:=hA.get hg
 have hdr:f.sub.drop l.length=g::f.sub.drop (l.length+1):=by
  obtain ⟨h1,h2⟩:=List.getElem?_eq_some_iff.1 hg
  rw[← h2]
  exact List.drop_eq_getElem_cons h1
 rw[hdr,kidsV] at hr
 simp (disch:=omega) only[push_cast,qE,h12,h14]
 rw[Vb]
 simp (disch:=omega) only[push_cast,qE,h12,h14]
 refine ldAggF Shp.eq g2 rfl (out_of (fun b hb=>Nat.lt_of_lt_of_le (Nat.lt_of_lt_of_le g1 hlo) (by
  rcases List.mem_cons.1 hb with rfl|hb
  ·exact hpb
  ·exact (List.mem_append.1 hb).elim (hZn b) (hM3 b)))) ?_
 simp (disch:=omega) only[push_cast,qE,Fld.cells]
 refine newI (fun b7 hb7 hn7=>?_)
 simp (disch:=omega) only[push_cast,qE,Fld.cells]
 refine sXa 0 rfl Siz.eq rfl rfl ?_
 simp (disch:=omega) only[push_cast,qE,h12,h14]
 obtain ⟨o7,ho7⟩:∃ o,o=(qb0 b7 g ga gc):=⟨_,rfl⟩
 have h7n:wb.heap.size≤o7.1:=by rw[ho7]; exact hb7
 have hKn:∀ {K:Own},(∀ b∈K,wb.heap.size≤b.1)→∀ b∈K++(o7::((x.own++ownR its)++[o3])),wb.heap.size≤b.1:=fun hK b hb=>by
  rcases List.mem_append.1 hb with hb|hb
  ·exact hK b hb
  ·rcases List.mem_cons.1 hb with rfl|hb
   ·exact h7n
   ·rcases List.mem_append.1 hb with hb|hb
    ·exact hZn b hb
    ·rw[List.mem_singleton.1 hb]; exact hM3 _ (.head _)
 have hmv:∀ {K:Own} {w':World},Sy wb (K++(o7::((x.own++ownR its)++o3::M))) w'→Sy wb ((K++(o7::((x.own++ownR its)++[o3])))++M) w':=fun h=>by simpa [List.append_assoc] using h
 refine cutV (KiJ wb pb s (o3::M) b3 b7 o7 f.sub (some ⟨gb,goff,none⟩) c g R r0 l x its) ?_ ?_
 ·rw[Vc]
  simp (disch:=omega) only[push_cast,qE,h0]
  refine cdD (fun hp0=>?_) (fun hp0=>?_)
  ·simp (disch:=omega) only[push_cast,qE,h0]
   refine callV en_101 (callX_weak (L':=oPs pb s q::(o7::((x.own++ownR its)++o3::M))) (fun w hw=>by rw[ho7]; exact hw.perm (List.Perm.swap _ _ _)) (callX_pw (M:=o7::((x.own++ownR its)++o3::M)) (fun q' K=>o7::oPs pb s q'::(K++((x.own++ownR its)++o3::M))) (fun w' hw'=>must_walk wb w' pb s q (o7::((x.own++ownR its)++o3::M)) 44 44 rfl hs hq hpb hw') (fun q' K w hw=>hw.perm (pC)) (fun u q1 v K hr1 hq1 hS hK=>?_) (fun er q1 K hr1 hK=>?_)))
   ·obtain ⟨rfl,rfl⟩:=hS
    simp (disch:=omega) only[push_cast,qE,h0]
    exact ⟨rfl,rfl,h0,h3,h5,rfl,h12,h13,h14,⟨q1,hq1,rfl,by rw[hr,if_neg (fun h=>by have:=of_decide_eq_true h; omega),hr1]; rfl⟩⟩
   ·refine sp ?_
    exact fun w' hw'=>PVR.fall (K++(o7::((x.own++ownR its)++[o3]))) (by rw[hr,if_neg (fun h=>by have:=of_decide_eq_true h; omega),hr1]; rfl) (hKn hK) (hmv hw')
  ·simp (disch:=omega) only[push_cast,qE,h0]
   exact ⟨rfl,rfl,h0,h3,h5,rfl,h12,h13,h14,⟨q,hq,by rw[ho7],by rw[hr,if_pos (decide_eq_true (by omega))]; rfl⟩⟩
 clear h0 h3 h5 h12 h13 h14 hr hq e hn7
 rintro wb e ds L ⟨rfl,rfl,h0,h3,h5,h7,h12,h13,h14,⟨q,hq,rfl,hr⟩⟩
 subst ho7
 simp (disch:=omega) only[push_cast,qE,h0,h5,h7]
 refine lOn Shp.eq mem0 rfl ?_
 simp (disch:=omega) only[push_cast,qE,h0,h5,h7]
 refine addS (m:=[58]) (by simp only[qN,List.length_nil]; omega) ?_
 simp (disch:=omega) only[push_cast,qE,h0,h5,h7]
 refine drawQT (by kernel_rfl) (by kernel_rfl) mixed (by kernel_rfl) ?_
 simp (disch:=omega) only[push_cast,qE,h0,h5,h7]
 refine lOn Shp.eq mem1 rfl ?_
 simp (disch:=omega) only[push_cast,qE,h0,h5,h7]
 refine lOn Shp.eq mem1 rfl ?_
 simp (disch:=omega) only[push_cast,qE,h0,h5,h7]
 refine qcallV en_105 (qcallX_is _ (fun w' _=>hasPrefix_walk w' (s.drop q) (g.nm++[58])) ?_)
 simp (disch:=omega) only[push_cast,qE,h0,h5,h7]
 rw[Vc]
 simp (disch:=omega) only[push_cast,qE,h0,h5,h7]
 rw[hasPre]
 refine cdB (fun hno=>?_) (fun hyes=>?_)
 ·simp (disch:=omega) only[push_cast,qE,h0,h5,h7]
  refine lOn Shp.eq mem1 rfl ?_
  simp (disch:=omega) only[push_cast,qE,h0,h5,h7]
  refine callV en_33 (callX_fail q ?_)
  refine sp ?_
  refine fun w' hw'=>PVR.fall ([oPs pb s q]++(_::((x.own++ownR its)++[o3]))) ?_ (hKn (K:=[oPs pb s q]) (fun b hb=>by rw[List.mem_singleton.1 hb]; exact hpb)) (hmv (K:=[oPs pb s q]) (hw'.perm (List.Perm.swap _ _ _)))
  have:mustV s (g.nm++[58]) q=.no 8 q:=by unfold mustV; rw[if_neg (by intro h; rw[h] at hno; cases hno)]
  rw[hr,this]
  rfl
 have hpre:(g.nm++[58]).isPrefixOf (s.drop q)=true:=by simpa using hyes
 have hq2:q+(g.nm.length+1)≤s.length:=by
  have:=(List.isPrefixOf_iff_prefix.1 hpre).length_le
  simp only[qA,qN,List.length_nil,List.length_drop] at this
  omega
 have hmu:mustV s (g.nm++[58]) q=.ok () (q+(g.nm.length+1)):=by unfold mustV; rw[if_pos hpre,qA]; rfl
 rw[hmu,PV.and_ok] at hr
 have hl9:(g.nm++[58]).length=g.nm.length+1:=by rw[qA]; rfl
 simp (disch:=omega) only[push_cast,qE,h0,h5,h7,hl9]
 refine lOn Shp.eq mem1 rfl ?_
 simp (disch:=omega) only[push_cast,qE,h0,h5,h7,hl9]
 refine sXa 1 rfl Siz.eq rfl rfl ?_
 simp (disch:=omega) only[push_cast,qE,h0,h5,h7]
 refine lAg Shp.eq mem0 rfl rfl ?_
 simp (disch:=omega) only[push_cast,qE,h0,h5,h7]
 obtain ⟨o7,ho7⟩:∃ o,o=(qb0 b7 g ga gc):=⟨_,rfl⟩
 refine callV en_32 (callX_weak (L':=oPs pb s (q+(g.nm.length+1))::(o7::((x.own++ownR its)++o3::M))) (fun w hw=>?_) (callX_pv (M:=o7::((x.own++ownR its)++o3::M)) (fun w' hw'=>hP wb w' lo pb s (q+(g.nm.length+1)) (o7::((x.own++ownR its)++o3::M)) _ g ga gc hl hTb hlo (hok.2 g hgm) g3 hs hq2 hpb (fun b hb=>?_) hw') (fun v q2 u K hr2 hq2 hS hK=>?_) (fun er q2 K hr2 hK=>?_)))
 ·have h2:=hw.perm (List.Perm.swap _ _ _)
  rw[ho7,oPs,Int.natCast_add,Int.natCast_add]
  exact h2
 ·rcases List.mem_cons.1 hb with rfl|hb
  ·rw[ho7]; exact hb7
  ·exact (List.mem_append.1 hb).elim (hZn b) (hM3 b)
 rotate_left
 ·refine sp ?_
  exact fun w' hw'=>PVR.fall (K++(o7::((x.own++ownR its)++[o3]))) (by rw[hr,← hR,hr2]; rfl) (by rw[ho7]; exact hKn hK) (by rw[ho7] at hw' ⊢; exact hmv hw')
 obtain ⟨its2,a2,c2,hv,rfl,rfl⟩:=hS
 simp (disch:=omega) only[push_cast,qE,h0,h5,Vl.cells]
 refine bs_27_1 (newI fun b8 hb8 hn8=>?_)
 simp (disch:=omega) only[push_cast,qE,h0,h5]
 refine valX_weak (L':=(b8,Obj.cells (v.cells a2 c2).toArray 29 (0,0))::oPs pb s q2::(ownR its2++((x.own++ownR its)++(o7::o3::M)))) (fun w hw=>(show Sy wb ((b8,Obj.cells (v.cells a2 c2).toArray 29 (0,0))::oPs pb s q2::(ownR its2++(o7::((x.own++ownR its)++o3::M)))) w from hw).perm (pC)) (zapp (x:=x) (its:=its) (its2:=its2) (v:=v) (a2:=a2) (c2:=c2) (o:=oPs pb s q2) (N:=o7::o3::M) (pb:=0) hb8 hx hxn (by omega) hxl (fun x' L' z1 z2 z3 z4 z5=>?_))
 have hi2:∀ b∈ownR (its++its2),wb.heap.size≤b.1:=(by rw[ownR_append]; exact (fun p hp=>(List.mem_append.1 hp).elim (hin p) (hK p)))
 simp (disch:=omega) only[push_cast,qE,h0,h3,h12,h13,h14]
 refine ⟨l.length+1,oPs pb s q2::((x'.own++ownR (its++its2))++o3::M),fun w hw=>?_,⟨rfl,rfl,h0,h3,h12,h13,i64_eq (by omega),⟨q2,l++[v],x',its++its2,hq2,by simp,z1,by rw[z2]; simp,by rw[z3]; exact ZeK.append (ZeK.single hv) hZ,z4,hi2,?_,rfl,?_⟩,by omega⟩,by omega⟩
 ·exact (z5 w hw).mid (oPs pb s q2::(x'.own++ownR (its++its2))) [o7] (C:=o3::M) (fun b hb=>by rw[List.mem_singleton.1 hb,ho7]; exact hb7)
 ·rw[Rw.way,z2]; rfl
 ·rw[hr,← hR,hr2,PV.and_ok,PV.and_and,hR]
  simp only[PV.and_ok,List.append_assoc,List.singleton_append]
  rw[decide_eq_false (by omega)]
structure ChI (w0:World) (o3 o4:Nat×Obj) (pb:Nat) (s:List UInt8) (p:Nat) (M:Own) (fs:List Fld) (a:Option Addr) (c:Nat) (nm:List UInt8) (i:Nat) (wb:World) (e:Env) (ds:List Deferred) (L:Own):Prop where
 hw:wb=w0
 hds:ds=[]
 h0:e 0=pPs pb
 h4:e 4=.pointer (some ⟨o4.1,0,none⟩)
 h5:e 5=str nm
 h12:e 12=.slice a fs.length c
 h13:e 13=i64 fs.length
 h14:e 14=i64 i
 o:L=o4::o3::oPs pb s p::M
 hi:i≤fs.length
 no:∀ (j:Nat) (g:Fld),j < i→fs[j]?=some g→g.nm≠nm
theorem find_at {fs:List Fld} {nm:List UInt8} {i:Nat} {g:Fld} (hg:fs[i]?=some g) (h:g.nm=nm) (no:∀ (j:Nat) (g:Fld),j < i→fs[j]?=some g→g.nm≠nm):fs.findIdx? (fun g=>g.nm == nm)=some i∧fs.find? (fun g=>g.nm == nm)=some g:=by
 obtain ⟨hi,he⟩:=List.getElem?_eq_some_iff.1 hg
 have h1:fs.findIdx? (fun g=>g.nm == nm)=some i:=by
  rw[List.findIdx?_eq_some_iff_getElem]
  refine ⟨hi,by rw[he]; simpa using h,fun j hj=>?_⟩
  have:=no j _ hj (qH (by omega))
  simpa using this
 refine ⟨h1,?_⟩
 rw[List.find?_eq_some_iff_getElem]
 refine ⟨un h,i,hi,he,fun j hj=>?_⟩
 have:=no j _ hj (qH (by omega))
 simpa using this
theorem choice_no {s:List UInt8} {R:Fld→Nat→PV Vl} {fs:List Fld} {q:Nat} (h:∀ (j:Nat) (g:Fld),fs[j]?=some g→g.nm≠rowP nameB s q):choiceV s R fs q=.no 8 q:=by
 unfold choiceV
 have:fs.findIdx? (fun g=>g.nm == rowP nameB s q)=none:=by
  rw[List.findIdx?_eq_none_iff]
  intro g hg
  obtain ⟨j,hj⟩:=List.mem_iff_getElem?.1 hg
  simpa using h j g hj
 rw[this]
theorem choice_yes {s:List UInt8} {R:Fld→Nat→PV Vl} {fs:List Fld} {q i:Nat} {g:Fld} (hg:fs[i]?=some g) (h:g.nm=rowP nameB s q) (no:∀ (j:Nat) (g:Fld),j < i→fs[j]?=some g→g.nm≠rowP nameB s q) :
 choiceV s R fs q=(mustV s [40] (runP nameB s q)).and fun _ r=>(R g r).and fun v r=>(mustV s [41] r).and fun _ r=>.ok (.mk false i [] [v]) r:=by
 obtain ⟨h1,h2⟩:=find_at hg h no
 unfold choiceV
 rw[h1,h2]
theorem choice_step (d:Nat) (hP:PaOK d) (wb w:World) (lo pb:Nat) (s:List UInt8) (p:Nat) (M:Own) (ind:Bool) (f:Fld) (a:Option Addr) (c:Nat) (hl:LibV wb) (hTb:TabsAt wb) (hlo:lo≤wb.heap.size) (hok:okT (d+1) ind f) (hk:f.k=18) (hA:FlAt wb lo f a c) (hs:s.length≤65536) (hp:p≤s.length) (hpb:wb.heap.size≤pb) (hM:∀ b∈M,wb.heap.size≤b.1) (hw:Sy wb (oPs pb s p::M) w) :
 Calls Tryz.prog 74 #[pPs pb,.agg (f.tcells a c).toArray] w (PVR wb pb s M (choiceV s (readV s d) f.sub p) VlS):=by
 have hmost:f.sub.length≤32:=by
  have h1:=hok.1.1.2.2.2.2
  rw[hk] at h1
  simp[mostK] at h1
  omega
 refine enterB (args:=[pPs pb,.agg (f.tcells a c).toArray]) Tryz.func74 rfl Tryz.ntmps74 (congrArg Array.toList Tryz.results74) (by kernel_rfl) (by simp) hw ?_
 simp (disch:=omega) only[push_cast,qE,Fld.tcells]
 refine newI (fun b3 hb3 hn3=>?_)
 simp (disch:=omega) only[push_cast,qE,Fld.tcells]
 refine newI (fun b4 hb4 hn4=>?_)
 simp (disch:=omega) only[push_cast,qE,Fld.tcells]
 refine callV en_66 (cIs (fun w' hw'=>row_walk w' pb s p 100 nameB en_100 letter_walk2 hs hp (At.of_own hw' mem2 rfl)) ?_)
 simp (disch:=omega) only[push_cast,qE,Fld.tcells]
 refine lOn Shp.eq mem1 rfl ?_
 simp (disch:=omega) only[push_cast,qE,Fld.tcells]
 obtain ⟨o3,ho3⟩:∃ o,o=(qb1 b3 f a c):=⟨_,rfl⟩
 obtain ⟨o4,ho4⟩:∃ o,o=(qb2 b4):=⟨_,rfl⟩
 have n3:wb.heap.size≤o3.1:=by rw[ho3]; exact hb3
 have n4:wb.heap.size≤o4.1:=by rw[ho4]; exact hb4
 rw[Vb]
 refine sp ?_
 refine loopW (G:=Nat) (ChI wb o3 o4 pb s p M f.sub a c (rowP nameB s p)) (fun i=>f.sub.length - i) 0 _ (fun w hw=>hw) (by kernel_rfl) ⟨rfl,rfl,rfl,by rw[ho4]; rfl,rfl,rfl,rfl,rfl,by rw[ho4,ho3],by omega,fun j g h=>by omega⟩ ?_
 clear hw hn3 hn4
 rintro i wb e ds L ⟨rfl,rfl,h0,h4,h5,h12,h13,h14,rfl,hi,hno⟩
 simp (disch:=omega) only[push_cast,qE,h12,h13,h14]
 rw[Vc]
 simp (disch:=omega) only[push_cast,qE,h12,h13,h14]
 refine cdD (fun hlt=>?_) (fun hge=>?_)
 rotate_left
 ·simp (disch:=omega) only[push_cast,qE,h0]
  refine lOn Shp.eq mem2 rfl ?_
  simp (disch:=omega) only[push_cast,qE,h0]
  refine callV en_33 (callX_fail p ?_)
  refine sp ?_
  refine fun w' hw'=>PVR.fall [o4,o3,oPs pb s p] (choice_no fun j g hj=>?_) (fun b hb=>?_) hw'
  ·exact hno j g (by have:=(List.getElem?_eq_some_iff.1 hj).1; omega) hj
  ·simp only[qM,qI,or_false] at hb
   rcases hb with rfl|rfl|rfl
   ·exact n4
   ·exact n3
   ·exact hpb
 obtain ⟨g,hg⟩:∃ g,f.sub[i]?=some g:=⟨_,qH (by omega)⟩
 have hgm:=List.mem_of_getElem? hg
 have hnm:=((hok.2 g hgm).name).2.2
 obtain ⟨gb,goff,ga,gc,rfl,g1,g2,g3⟩:=hA.get hg
 simp (disch:=omega) only[push_cast,qE,h12,h14]
 rw[Vb]
 simp (disch:=omega) only[push_cast,qE,h12,h14]
 refine ldAggF Shp.eq g2 rfl (out_of (fun b hb=>Nat.lt_of_lt_of_le (Nat.lt_of_lt_of_le g1 hlo) (by
  simp only[qM] at hb
  rcases hb with rfl|rfl|rfl|hb
  ·exact n4
  ·exact n3
  ·exact hpb
  ·exact hM b hb))) ?_
 simp (disch:=omega) only[push_cast,qE,Fld.cells]
 refine newI (fun b7 hb7 hn7=>?_)
 simp (disch:=omega) only[push_cast,qE,Fld.cells]
 refine sXa 0 rfl Siz.eq rfl rfl ?_
 simp (disch:=omega) only[push_cast,qE,h5]
 refine lOn Shp.eq mem0 rfl ?_
 simp (disch:=omega) only[push_cast,qE,h5]
 rw[Vc]
 simp (disch:=omega) only[push_cast,qE,h5]
 refine cdD (fun heq=>?_) (fun hne=>?_)
 rotate_left
 ·simp (disch:=omega) only[push_cast,qE,h14]
  refine ⟨i+1,o4::o3::oPs pb s p::M,fun w hw=>hw.left (A:=[_]) (fun b hb=>by rw[List.mem_singleton.1 hb]; exact hb7),⟨rfl,rfl,h0,h4,h5,h12,h13,i64_eq (by omega),rfl,by omega,fun j g' hj hg'=>?_⟩,by omega⟩
  rcases Nat.lt_or_ge j i with h|h
  ·exact hno j g' h hg'
  ·obtain rfl:j=i:=by omega
   rw[hg] at hg'
   obtain rfl:=Option.some.inj hg'
   exact hne
 have hch:=choice_yes (R:=readV s d) hg heq hno
 have hrl:p+g.nm.length=runP nameB s p:=by rw[heq]; rfl
 have hru:runP nameB s p≤s.length:=runP_le hp
 rw[← hrl] at hch hru
 simp (disch:=omega) only[push_cast,qE,h0,h5]
 refine lOn Shp.eq mem3 rfl ?_
 simp (disch:=omega) only[push_cast,qE,h0,h5,← heq]
 refine sXa 3 rfl Siz.eq rfl rfl ?_
 simp (disch:=omega) only[push_cast,qE,h0,h5]
 obtain ⟨o7,ho7⟩:∃ o,o=(qb0 b7 g ga gc):=⟨_,rfl⟩
 have n7:wb.heap.size≤o7.1:=by rw[ho7]; exact hb7
 have hM7:∀ b∈o7::o4::o3::M,wb.heap.size≤b.1:=fun b hb=>by
  simp only[qM] at hb
  rcases hb with rfl|rfl|rfl|hb
  ·exact n7
  ·exact n4
  ·exact n3
  ·exact hM b hb
 have hKn:∀ {K:Own},(∀ b∈K,wb.heap.size≤b.1)→∀ b∈K++[o7,o4,o3],wb.heap.size≤b.1:=fun hK b hb=>by
  rcases List.mem_append.1 hb with hb|hb
  ·exact hK b hb
  ·exact hM7 b (by simp only[qM,qI,or_false] at hb; rcases hb with rfl|rfl|rfl<;>simp)
 refine callV en_101 (callX_weak (L':=oPs pb s (p+g.nm.length)::(o7::o4::o3::M)) (fun w hw=>?_) (callX_pv (M:=o7::o4::o3::M) (fun w' hw'=>must_walk wb w' pb s (p+g.nm.length) (o7::o4::o3::M) 40 40 rfl hs hru hpb hw') (fun u q1 v K hr1 hq1 hS hK=>?_) (fun er q1 K hr1 hK=>?_)))
 ·rw[ho7,oPs,Int.natCast_add]
  exact hw.perm (List.perm_middle (l₁:=[_,_,_]))
 rotate_left
 ·refine sp ?_
  exact fun w' hw'=>PVR.fall (K++[o7,o4,o3]) (by rw[hch,hr1]; rfl) (hKn hK) (by simpa [List.append_assoc] using hw')
 obtain ⟨rfl,rfl⟩:=hS
 rw[hr1,PV.and_ok] at hch
 simp (disch:=omega) only[push_cast,qE,h0,h14]
 refine lAg Shp.eq (by rw[ho7]; exact mem1) rfl rfl ?_
 simp (disch:=omega) only[push_cast,qE,h0,h14]
 refine callV en_32 (callX_pw (M:=o7::o4::o3::M) (fun q K=>o4::oPs pb s q::(K++(o7::o3::M))) (fun w' hw'=>hP wb w' lo pb s q1 (o7::o4::o3::M) _ g ga gc hl hTb hlo (hok.2 g hgm) g3 hs hq1 hpb hM7 hw') (fun q K w hw=>hw.perm (pC)) (fun v q2 u K hr2 hq2 hS hK=>?_) (fun er q2 K hr2 hK=>?_))
 rotate_left
 ·refine sp ?_
  exact fun w' hw'=>PVR.fall (K++[o7,o4,o3]) (by rw[hch,hr2]; rfl) (hKn hK) (by simpa [List.append_assoc] using hw')
 obtain ⟨its2,a2,c2,hv,rfl,rfl⟩:=hS
 rw[hr2,PV.and_ok] at hch
 simp (disch:=omega) only[push_cast,qE,h0,h14,Vl.cells]
 refine bs_27_1 (newI fun b9 hb9 hn9=>?_)
 simp (disch:=omega) only[push_cast,qE,h0,h14]
 refine newI (fun b8 hb8 hn8=>?_)
 simp (disch:=omega) only[push_cast,qE,h0,h14]
 refine sXa 0 rfl Siz.eq rfl rfl ?_
 simp (disch:=omega) only[push_cast,qE,h0,h4]
 obtain ⟨o9,ho9⟩:∃ o,o=(b9,Obj.cells (v.cells a2 c2).toArray 29 (0,0)):=⟨_,rfl⟩
 obtain ⟨o8,ho8⟩:∃ o,o=(b8,Obj.cells #[.bool false,i64 i,str [],.slice (some ⟨b9,0,none⟩) 1 1] 29 (0,0)):=⟨_,rfl⟩
 have n9:wb.heap.size≤o9.1:=by rw[ho9]; exact hb9
 have n8:wb.heap.size≤o8.1:=by rw[ho8]; exact hb8
 have hKm:∀ {K:Own},(∀ b∈K,wb.heap.size≤b.1)→∀ b∈K++(o8::o9::o4::(ownR its2++[o7,o3])),wb.heap.size≤b.1:=fun hK' b hb=>by
  simp only[List.mem_append,qM,qI,or_false] at hb
  rcases hb with hb|rfl|rfl|rfl|hb|rfl|rfl
  ·exact hK' b hb
  ·exact n8
  ·exact n9
  ·exact n4
  ·exact hK b hb
  ·exact n7
  ·exact n3
 refine callV en_101 (callX_weak (L':=oPs pb s q2::(o8::o9::o4::(ownR its2++(o7::o3::M)))) (fun w hw=>?_) (callX_pw (M:=o8::o9::o4::(ownR its2++(o7::o3::M))) (fun q K=>o8::o4::oPs pb s q::(K++(o9::(ownR its2++(o7::o3::M))))) (fun w' hw'=>must_walk wb w' pb s q2 (o8::o9::o4::(ownR its2++(o7::o3::M))) 41 41 rfl hs hq2 hpb hw') (fun q K w hw=>hw.perm (pC)) (fun u q3 v' K hr3 hq3 hS hK'=>?_) (fun er q3 K hr3 hK'=>?_)))
 ·rw[ho8,ho9]
  exact hw.perm (List.perm_middle (l₁:=[_,_,_]))
 rotate_left
 ·refine sp ?_
  exact fun w' hw'=>PVR.fall (K++(o8::o9::o4::(ownR its2++[o7,o3]))) (by rw[hch,hr3]; rfl) (hKm hK') (by simpa [List.append_assoc] using hw')
 obtain ⟨rfl,rfl⟩:=hS
 rw[hr3,PV.and_ok] at hch
 rw[ho4] at h4
 simp (disch:=omega) only[push_cast,qE,h4]
 refine lAg Shp.eq (by rw[ho8]; exact mem0) rfl rfl ?_
 simp (disch:=omega) only[push_cast,qE,h4]
 refine stX 1 (by rw[ho4]; rfl) Siz.eq rfl rfl (by simp[Value.oneCell']) (by simp) ?_
 simp (disch:=omega) only[push_cast,qE,h4]
 refine lAg Shp.eq mem1 rfl rfl ?_
 refine sp ?_
 refine fun w' hw'=>PVR.leaf (x:=.mk false i [] [v]) (q:=q3) _ (o9::ownR its2) hch hq3 ⟨⟨some b9,1,1,v.cells a2 c2⟩::its2,some ⟨b9,0,none⟩,1,?_,rfl,?_⟩ (fun b hb=>?_) ?_
 ·rw[ZeV]
  refine ⟨by simp,by omega,_,its2,rfl,.inr ⟨by simp,Nat.le_refl _,(by show (1:Nat)≤maxLen; decide),rfl⟩,rfl,rfl,rfl,?_⟩
  exact ZeK.single hv
 ·rw[ho9,ownR_cons]; rfl
 ·rcases List.mem_cons.1 hb with rfl|hb
  ·exact n9
  ·exact hK b hb
 ·have h2:=(hw'.left (A:=[_,_]) (fun b hb=>by
   simp only[qM,qI,or_false] at hb
   rcases hb with rfl|rfl
   ·exact n8
   ·exact hb4):Sy wb (oPs pb s q3::(o9::(ownR its2++(o7::o3::M)))) w')
  exact h2.mid (oPs pb s q3::(o9::ownR its2)) [o7,o3] (C:=M) (fun b hb=>by
   simp only[qM,qI,or_false] at hb
   rcases hb with rfl|rfl
   ·exact n7
   ·exact n3)
end Go.Proofs.YtilejcofleeeiaaGreatDoor
