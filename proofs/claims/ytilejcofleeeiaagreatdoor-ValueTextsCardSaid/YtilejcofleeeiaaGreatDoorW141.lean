/- YtilejcofleeeiaaGreatDoor: walks, part 141: Book: the lists are their owner's, no two share memory. -/
import Derived.Test.YtilejcofleeeiaaGreatDoorW116
import Derived.Test.YtilejcofleeeiaaGreatDoorW235
namespace Go.Proofs.YtilejcofleeeiaaGreatDoor
open Go Go.K
open Nat renaming reduceEqDiff → qE
open Go.Value renaming oneCell' → qC
open List renaming mem_append_right → qR, getElem?_eq_getElem → qH
set_option maxRecDepth 100000
set_option linter.unusedVariables false
set_option linter.unusedSimpArgs false
set_option maxHeartbeats 4000000
abbrev oVs (b:Nat) (cs:List Value):Nat×Obj:=(b,Obj.cells cs.toArray 29 (0,0))
abbrev oWs (b:Nat) (cs:List Value):Nat×Obj:=(b,Obj.cells cs.toArray 27 (0,0))
abbrev oBk (bk:Nat) (va vm:Value):Nat×Obj:=(bk,Obj.cells #[va,vm,.slice none 0 0,.slice none 0 0] 43 (0,0))
theorem mrkd_succ {l:List Rw} {i:Nat} {x:Rw} (h:l[i]?=some x):ownR (mrkd 0 (l.take (i+1)))=ownR (mrkd 0 (l.take i))++(x.mrk i x.n).own:=by
 have q1:=(List.getElem?_eq_some_iff.1 h).1
 rw[rw_split1 h,mrkd_append,ownR_append,mrkd,mrkd,ownR_one,List.length_take,Nat.min_eq_left (by omega),Nat.zero_add]
theorem mrkd_drop {l:List Rw} {i:Nat} {x:Rw} (h:l[i]?=some x):ownR (mrkd i (l.drop i))=(x.mrk i x.n).own++ownR (mrkd (i+1) (l.drop (i+1))):=by
 obtain ⟨q1,rfl⟩:=List.getElem?_eq_some_iff.1 h
 rw[List.drop_eq_getElem_cons q1,mrkd,ownR_cons]
theorem ownR_drop {l:List Rw} {i:Nat} {x:Rw} (h:l[i]?=some x):ownR (l.drop i)=x.own++ownR (l.drop (i+1)):=by
 obtain ⟨q1,rfl⟩:=List.getElem?_eq_some_iff.1 h
 rw[List.drop_eq_getElem_cons q1,ownR_cons]
theorem mrk_own_some {x:Rw} {b:Nat} (h:x.b=some b) (i k:Nat):(x.mrk i k).own=[oVs b (x.mrk i k).cs]:=by
 show (match (x.mrk i k).b with|none=>[]|some b=>[(b,Obj.cells (x.mrk i k).cs.toArray 29 (0,0))])=_
 rw[show (x.mrk i k).b=some b from h]
theorem ways_at {xs:List Rw} {i:Nat} {x:Rw} {ws:List Value} (h:xs[i]?=some x) (hw:ws.take xs.length=xs.map Rw.way):ws[i]?=some x.way:=by
 have q1:=(List.getElem?_eq_some_iff.1 h).1
 have q2:(ws.take xs.length)[i]?=some x.way:=by rw[hw,List.getElem?_map,h]; rfl
 rwa [List.getElem?_take,if_pos q1] at q2
structure Ap2 (w0:World) (bk rb cap n:Nat) (ws:List Value) (Z:Own) (x:Rw) (i:Nat) (k:Nat) (wb:World) (e:Env) (ds:List Deferred) (L:Own):Prop where
 hw:wb=w0
 hds:ds=[]
 hk:k≤x.n
 h0:e 0=.pointer (some ⟨bk,0,none⟩)
 h3:e 3=i64 i
 h4:e 4=i64 k
 o:L=(x.mrk i k).own++(oBk bk (.slice (some ⟨rb,0,none⟩) n cap) (.slice none 0 0)::oWs rb ws::Z)
structure Ap1 (w0:World) (bk rb cap:Nat) (ws:List Value) (xs:List Rw) (M:Own) (i:Nat) (wb:World) (e:Env) (ds:List Deferred) (L:Own):Prop where
 hw:wb=w0
 hds:ds=[]
 hi:i≤xs.length
 h0:e 0=.pointer (some ⟨bk,0,none⟩)
 h3:e 3=i64 i
 o:L=oBk bk (.slice (some ⟨rb,0,none⟩) xs.length cap) (.slice none 0 0)::oWs rb ws::(ownR (mrkd 0 (xs.take i))++(ownR (xs.drop i)++M))
structure ApE (w0:World) (bk:Nat) (L0:Own) (s:Nat) (wb:World) (e:Env) (ds:List Deferred) (L:Own):Prop where
 hw:wb=w0
 hds:ds=[]
 h0:e 0=.pointer (some ⟨bk,0,none⟩)
 h3:e s=i64 0
 o:L=L0
structure Dr where
 x:Rw
 b:Nat
 c:Nat
 K:Own
def Dr.more (d:Dr):Value:=.slice (some ⟨d.b,0,none⟩) (d.x.n+1) d.c
def ownD (l:List Dr):Own:=l.flatMap Dr.K
structure DrOK (i:Nat) (d:Dr):Prop where
 hn:d.x.n≤1000000
 ho:∃ cs:List Value,oVs d.b cs∈d.K∧cs.take ((d.x.n+1) * 4)=marks i (d.x.n+1)
 hx:d.x.n=0∨∃ (b:Nat) (cs:List Value),d.x.b=some b∧oVs b cs∈d.K∧cs.take (d.x.n * 4)=marks i d.x.n
theorem ownD_append (a b:List Dr):ownD (a++b)=ownD a++ownD b:=by simp[ownD]
theorem ownD_one (x:Dr):ownD [x]=x.K:=by simp[ownD]
theorem ownD_mem {l:List Dr} {i:Nat} {d:Dr} (h:l[i]?=some d):∀ p∈d.K,p∈ownD l:=fun p hp=>List.mem_flatMap.2 ⟨d,List.mem_of_getElem? h,hp⟩
theorem mark_at {wb w:World} {L:Own} {b n i k:Nat} {cs:List Value} (hw:Sy wb L w) (hm:oVs b cs∈L) (hc:cs.take (n * 4)=marks i n) (hk:k < n):At w b (k * 4) (markC i):=by
 refine ⟨_,_,_,hw.own _ _ hm,?_⟩
 have h1:(cs.toArray.toList.drop (k * 4)).take (markC i).length=((cs.take (n * 4)).drop (k * 4)).take 4:=by
  rw[List.drop_take,List.take_take,Nat.min_eq_left (by omega)]
  rfl
 rw[h1,hc]
 exact marks_get i hk
theorem RowK.block {wb:World} {e:TypeId} {size n:Nat} {P0:Own→Prop} {L M:Own} {v:Value} {xs:List Value} (h:RowK wb e size P0 L M v n xs) (hn:0 < n) (hP:∀ M0,P0 M0→∀ p∈M0,wb.heap.size≤p.1) :
 ∃ (b c:Nat) (cs:List Value) (K0:Own),v=.slice (some ⟨b,0,none⟩) n c∧L=(b,Obj.cells cs.toArray e (0,0))::(K0++M)∧n≤c∧c≤maxLen∧c * size≤cs.length∧cs.take (n * size)=xs∧wb.heap.size≤b∧(∀ p∈K0,wb.heap.size≤p.1) ∧
  ((K0=[]∧∀ cs':List Value,cs'.length=cs.length→cs'.take (n * size)=xs→P0 [(b,Obj.cells cs'.toArray e (0,0))])∨P0 K0):=by
 rcases h with ⟨h0,b,c,cs,rfl,rfl,h1,h2,h3,h4,h5⟩|⟨M0,h1,h0,⟨_,q,_⟩|⟨b,c,cs,rfl,rfl,h2,h3,h4,h5,h6⟩⟩
 ·exact ⟨b,c,cs,[],rfl,rfl,h1,h2,h3,h4,hP _ (h5 cs rfl h4) _ (.head _),by simp,.inl ⟨rfl,h5⟩⟩
 ·omega
 ·exact ⟨b,c,cs,M0,rfl,rfl,h3,h4,Nat.le_of_eq h5.symm,h6,h2,hP _ h1,.inr h1⟩
theorem RowO.get {wb:World} {e:TypeId} {n:Nat} {R:Own} {v:Value} {xs:List Value} (h:RowO wb e 1 R [] v n xs) (hn:0 < n):∃ (b c:Nat) (cs:List Value),v=.slice (some ⟨b,0,none⟩) n c∧R=[(b,Obj.cells cs.toArray e (0,0))]∧cs.take (n * 1)=xs:=by
 obtain ⟨_,⟨_,q,_⟩|⟨b,c,cs,rfl,rfl,_,_,_,_,h5⟩⟩:=h
 ·omega
 ·exact ⟨b,c,cs,rfl,rfl,h5⟩
def MrkB (b i n:Nat) (M0:Own):Prop:=∃ cs:List Value,M0=[oVs b cs]∧cs.take (n * 4)=marks i n
def MrkX (x:Rw) (i:Nat) (wb:World) (M0:Own):Prop:=(∀ p∈M0,wb.heap.size≤p.1)∧(x.n=0∨∃ (b:Nat) (cs:List Value),x.b=some b∧oVs b cs∈M0∧cs.take (x.n * 4)=marks i x.n)
theorem mrk_rowK {wb:World} {x:Rw} (hx:x.OK) (hn:∀ p∈x.own,wb.heap.size≤p.1) (i:Nat) (M:Own):RowK wb 29 4 (MrkX x i wb) ((x.mrk i x.n).own++M) M x.way x.n (marks i x.n):=by
 have hl:=marks_len i x.n
 rcases hx with ⟨h1,h2,h3⟩|⟨h1,h2,h3,h4⟩
 ·refine .inr ⟨[],⟨by simp,.inl h2⟩,by rw[hl],.inl ⟨?_,h2,?_⟩⟩
  ·rw[Rw.way,Rw.at_,h1,h2,h3]; rfl
  ·unfold Rw.own
   rw[show (x.mrk i x.n).b=none from h1]
 ·obtain ⟨b,hb⟩:=Option.ne_none_iff_exists'.1 h1
  refine .inl ⟨hl,b,x.c,(x.mrk i x.n).cs,?_,?_,h2,h3,?_,?_,?_⟩
  ·rw[Rw.way,Rw.at_,hb]; rfl
  ·rw[mrk_own_some hb]; rfl
  ·show x.c * 4≤(marks i x.n++x.cs.drop (x.n * 4)).length
   rw[List.length_append,hl,List.length_drop,h4]; omega
  ·show (marks i x.n++x.cs.drop (x.n * 4)).take (x.n * 4)=_
   rw[← hl,List.take_left]
  ·intro cs' q1 q2
   refine ⟨fun p hp=>?_,.inr ⟨b,cs',hb,.head _,q2⟩⟩
   rw[List.mem_singleton.1 hp]
   exact hn (b,Obj.cells x.cs.toArray 29 (0,0)) (by unfold Rw.own; rw[hb]; exact .head _)
structure Ap4 (w0:World) (bk:Nat) (x:Rw) (i b:Nat) (T:Own) (k:Nat) (wb:World) (e:Env) (ds:List Deferred) (L:Own):Prop where
 hw:wb=w0
 hds:ds=[]
 hk:k≤6
 h0:e 0=.pointer (some ⟨bk,0,none⟩)
 h7:e 7=i64 i
 h9:e 9=i64 k
 o:∃ v,e 8=v∧RowK w0 29 4 (MrkB b i (x.n+1)) L T v (x.n+1+k) (marks i (x.n+1+k))
structure Ap3 (w0:World) (bk rb cap:Nat) (ws:List Value) (xs:List Rw) (M:Own) (i:Nat) (wb:World) (e:Env) (ds:List Deferred) (L:Own):Prop where
 hw:wb=w0
 hds:ds=[]
 hi:i≤xs.length
 h0:e 0=.pointer (some ⟨bk,0,none⟩)
 h7:e 7=i64 i
 o:∃ (vm:Value) (Rm:Own) (dl:List Dr),RowO w0 27 1 Rm [] vm i (dl.map Dr.more)∧dl.length=i∧(∀ j d,dl[j]?=some d→DrOK j d∧xs[j]?=some d.x)∧(∀ p∈ownD dl,w0.heap.size≤p.1) ∧
  L=oBk bk (.slice (some ⟨rb,0,none⟩) xs.length cap) vm::oWs rb ws::(Rm++(ownD dl++(ownR (mrkd i (xs.drop i))++M)))
structure Ap5 (w0:World) (bk:Nat) (n:Nat) (L0:Own) (i:Nat) (wb:World) (e:Env) (ds:List Deferred) (L:Own):Prop where
 hw:wb=w0
 hds:ds=[]
 hi:i≤n
 h0:e 0=.pointer (some ⟨bk,0,none⟩)
 h13:e 13=i64 i
 o:L=L0
theorem apart_walk (wb w:World) (bk rb cap:Nat) (ws:List Value) (xs:List Rw) (M:Own) (hxs:∀ x∈xs,x.OK∧x.n≤1000000) (hws:ws.take xs.length=xs.map Rw.way) (hlen:xs.length≤1000000) (hxn:∀ p∈ownR xs,wb.heap.size≤p.1) (hbk:wb.heap.size≤bk) (hrb:wb.heap.size≤rb)
 (hw:Sy wb (oBk bk (.slice (some ⟨rb,0,none⟩) xs.length cap) (.slice none 0 0)::oWs rb ws::(ownR xs++M)) w) :
 Calls Tryz.prog 15 #[.pointer (some ⟨bk,0,none⟩)] w (fun e w'=>e=.returned (.bool true)∧Sy wb M w'):=by
 refine enterB (args:=[.pointer (some ⟨bk,0,none⟩)]) Tryz.func15 rfl Tryz.ntmps15 (congrArg Array.toList Tryz.results15) (by kernel_rfl) (by simp) hw ?_
 refine sp ?_
 rw[Vb]
 refine sp ?_
 refine loopW (G:=Nat) (Ap1 wb bk rb cap ws xs M) (fun i=>xs.length - i) 0 _ (fun w hw=>hw) (by kernel_rfl) ⟨rfl,rfl,by omega,rfl,rfl,(by simp[mrkd,ownR])⟩ ?_
 ·
  rintro i wb e ds L ⟨rfl,rfl,hi,h0,h3,rfl⟩
  simp (disch:=omega) only[push_cast,qE,h0,h3]
  refine lOn Shp.eq mem0 rfl ?_
  simp (disch:=omega) only[push_cast,qE,h0,h3]
  rw[Vc]
  simp (disch:=omega) only[push_cast,qE,h0,h3]
  refine cdD (fun hlt=>?_) (fun hge=>?_)
  rotate_left
  ·have ei:i=xs.length:=by omega
   subst ei
   rw[List.take_length,List.drop_length,show ownR []++M=M from rfl]
   simp (disch:=omega) only[push_cast,qE,h0,h3]
   rw[Vb]
   simp (disch:=omega) only[push_cast,qE,h0]
   refine loopW (G:=Nat) (fun _=>ApE wb bk (oBk bk (.slice (some ⟨rb,0,none⟩) xs.length cap) (.slice none 0 0)::oWs rb ws::(ownR (mrkd 0 xs)++M)) 5) (fun i=>i) 0 _ (fun w hw=>hw) (by kernel_rfl) ⟨rfl,rfl,h0,rfl,rfl⟩ ?_
   clear h0
   rintro - wb e ds L ⟨rfl,rfl,h0,h3,rfl⟩
   simp (disch:=omega) only[push_cast,qE,h0,h3]
   refine lOn Shp.eq mem0 rfl ?_
   simp (disch:=omega) only[push_cast,qE,h0,h3]
   rw[Vc]
   simp (disch:=omega) only[push_cast,qE,h0,h3]
   refine cdD (fun h=>by exfalso; omega) (fun _=>?_)
   simp (disch:=omega) only[push_cast,qE,h0,h3]
   rw[Vb]
   simp (disch:=omega) only[push_cast,qE,h0]
   refine loopW (G:=Nat) (Ap3 wb bk rb cap ws xs M) (fun i=>xs.length - i) 0 _ (fun w hw=>hw) (by kernel_rfl) ⟨rfl,rfl,by omega,h0,rfl,.slice none 0 0,[],[],⟨rfl,.inl ⟨rfl,rfl,rfl⟩⟩,rfl,by simp,by simp[ownD],by simp[ownD]⟩ ?_
   clear h0 h3 hi hge
   rintro i wb e ds L ⟨rfl,rfl,hi,h0,h7,vm,Rm,dl,hRm,hdl,hok,hdn,rfl⟩
   simp (disch:=omega) only[push_cast,qE,h0,h7]
   refine lOn Shp.eq mem0 rfl ?_
   simp (disch:=omega) only[push_cast,qE,h0,h7]
   rw[Vc]
   simp (disch:=omega) only[push_cast,qE,h0,h7]
   refine cdD (fun hlt=>?_) (fun hge=>?_)
   ·obtain ⟨x,hx⟩:∃ x,xs[i]?=some x:=⟨_,qH (by omega)⟩
    have hxo:=hxs x (List.mem_of_getElem? hx)
    have hway:=ways_at hx hws
    have hxnew:∀ p∈x.own,wb.heap.size≤p.1:=fun p hp=>hxn p (List.mem_flatMap.2 ⟨x,List.mem_of_getElem? hx,hp⟩)
    simp (disch:=omega) only[push_cast,qE,h0,h7]
    rw[Vb]
    simp (disch:=omega) only[push_cast,qE,h0,h7]
    refine lOn Shp.eq mem0 rfl ?_
    simp (disch:=omega) only[push_cast,qE,h0,h7]
    refine lOn Shp.eq mem1 (by rw[Nat.mul_one]; exact hway) ?_
    simp (disch:=omega) only[push_cast,qE,h0,h7]
    refine bs_27_1 (newI fun b9 hb9 hn9=>?_)
    simp (disch:=omega) only[push_cast,qE,h0,h7]
    have hrow:=mrk_rowK hxo.1 hxnew i (oVs b9 (markC i)::oBk bk (.slice (some ⟨rb,0,none⟩) xs.length cap) vm::oWs rb ws::(Rm++(ownD dl++(ownR (mrkd (i+1) (xs.drop (i+1)))++M))))
    refine valX_weak (L':=(x.mrk i x.n).own++(oVs b9 (markC i)::oBk bk (.slice (some ⟨rb,0,none⟩) xs.length cap) vm::oWs rb ws::(Rm++(ownD dl++(ownR (mrkd (i+1) (xs.drop (i+1)))++M))))) (fun w hw=>hw.perm ?_) (appendK un_27 infoVal rfl (by decide) (by decide) (m:=1) (news:=markC i) hrow rfl hrow.reads (by simp[markC,qC]) (by simp only[maxLen]; omega) (by omega) (fun v' L' hrow'=>?_))
    ·rw[mrkd_drop hx]
     show List.Perm (oVs b9 (markC i)::_) _
     exact pC
    (refine xe4 (hrow'.block (by omega) (fun M0 h=>h.1)) (fun b c cs K0 hz=>?_); have ez:=hz.1; subst ez; have ez:=hz.2.1; subst ez; have hnc:=hz.2.2.1; have hcm:=hz.2.2.2.1; have hcl:=hz.2.2.2.2.1; have hct:=hz.2.2.2.2.2.1; have hbn:=hz.2.2.2.2.2.2.1; have hK0n:=hz.2.2.2.2.2.2.2.1; have hK0:=hz.2.2.2.2.2.2.2.2; clear hz)
    simp (disch:=omega) only[push_cast,qE,h0,h7]
    refine lOn Shp.eq (.tail _ (qR _ (.tail _ (.head _)))) rfl ?_
    simp (disch:=omega) only[push_cast,qE,h0,h7]
    refine bs_40_1 (newI fun b11 hb11 hn11=>?_)
    simp (disch:=omega) only[push_cast,qE,h0,h7]
    refine valX_weak (L':=Rm++(oWs b11 [.slice (some ⟨b,0,none⟩) (x.n+1) c]::oVs b cs::(K0++(oVs b9 (markC i)::oBk bk (.slice (some ⟨rb,0,none⟩) xs.length cap) vm::oWs rb ws::(ownD dl++(ownR (mrkd (i+1) (xs.drop (i+1)))++M)))))) (fun w hw=>hw.perm ?_) (appendI un_40 infoRowV rfl (m:=1) (news:=[.slice (some ⟨b,0,none⟩) (x.n+1) c]) (RowO.frame hRm) rfl (CanRead.of_own (e:=27) (b:=b11) (cs:=[.slice (some ⟨b,0,none⟩) (x.n+1) c]) (n:=1) (qR _ (.head _)) rfl rfl) (by simp[qC]) (by simp only[maxLen]; omega) (by omega) (fun v' L' hr' _=>?_))
    ·show List.Perm (oWs b11 [.slice (some ⟨b,0,none⟩) (x.n+1) c]::oVs b cs::_) _
     exact pC
    (refine Exists.elim (RowO.unframe hr') (fun Rm' hz=>?_); have ez:=hz.1; subst ez; have hRm':=hz.2; clear hz)
    (refine xe2 (hRm'.is_slice) (fun vma vmc hz=>?_); have ez:=hz; subst ez; clear hz)
    simp (disch:=omega) only[push_cast,qE,h0,h7]
    refine storeX_weak (L':=oBk bk (.slice (some ⟨rb,0,none⟩) xs.length cap) vm::(Rm'++(oWs b11 [.slice (some ⟨b,0,none⟩) (x.n+1) c]::oVs b cs::(K0++(oVs b9 (markC i)::oWs rb ws::(ownD dl++(ownR (mrkd (i+1) (xs.drop (i+1)))++M))))))) (fun w hw=>hw.perm (pC)) (sXa 0 rfl Siz.eq rfl rfl ?_)
    simp (disch:=omega) only[push_cast,qE,h0,h7]
    rw[Vb]
    simp (disch:=omega) only[push_cast,qE,h0,h7]
    refine loopW (G:=Nat) (Ap4 wb bk x i b (K0++(oBk bk (.slice (some ⟨rb,0,none⟩) xs.length cap) (.slice vma (i+1) vmc)::oWs rb ws::(Rm'++(ownD dl++(ownR (mrkd (i+1) (xs.drop (i+1)))++M)))))) (fun k=>6 - k) 0 (oVs b cs::(K0++(oBk bk (.slice (some ⟨rb,0,none⟩) xs.length cap) (.slice vma (i+1) vmc)::oWs rb ws::(Rm'++(ownD dl++(ownR (mrkd (i+1) (xs.drop (i+1)))++M)))))) (fun w hw=>?_) (by kernel_rfl) ⟨rfl,rfl,by omega,h0,h7,rfl,_,rfl,.inl ⟨marks_len i (x.n+1),b,c,cs,rfl,rfl,hnc,hcm,hcl,hct,fun cs' q1 q2=>⟨cs',rfl,q2⟩⟩⟩ ?_
    ·refine Sy.left (A:=[oWs b11 [.slice (some ⟨b,0,none⟩) (x.n+1) c],oVs b9 (markC i)]) (hw.perm ?_) (fun p hp=>?_)
     ·show List.Perm (oBk bk (.slice (some ⟨rb,0,none⟩) xs.length cap) (.slice vma (i+1) vmc)::_) _
      exact pC
     ·simp only[List.mem_cons,List.mem_nil_iff,or_false] at hp
      rcases hp with rfl|rfl<;>assumption
    clear h0 h7 e
    rintro k wb e ds L ⟨rfl,rfl,hk,h0,h7,h9,v,h8,hrw⟩
    simp (disch:=omega) only[push_cast,qE,h0,h7,h8,h9]
    rw[Vc]
    simp (disch:=omega) only[push_cast,qE,h0,h7,h8,h9]
    refine cdD (fun hlt2=>?_) (fun hge2=>?_)
    ·simp (disch:=omega) only[push_cast,qE,h0,h7,h8,h9]
     rw[Vb]
     simp (disch:=omega) only[push_cast,qE,h0,h7,h8,h9]
     refine bs_27_1 (newI fun b12 hb12 hn12=>?_)
     simp (disch:=omega) only[push_cast,qE,h0,h7,h8,h9]
     (refine Exists.elim (hrw.over (oVs b12 (markC i))) (fun L2 hz=>?_); have hrow2:=hz.1; have hs2:=hz.2; clear hz)
     refine valX_weak hs2 (appendK un_27 infoVal rfl (by decide) (by decide) (m:=1) (news:=markC i) hrow2 rfl hrow2.reads (by simp[markC,qC]) (by simp only[maxLen]; omega) (by omega) (fun v5 L5 hrow5=>?_))
     simp (disch:=omega) only[push_cast,qE,h0,h7,h8,h9]
     (refine Exists.elim (hrow5.shrink _ hb12) (fun L6 hz=>?_); have hrow6:=hz.1; have hs6:=hz.2; clear hz)
     exact ⟨k+1,L6,hs6,⟨rfl,rfl,by omega,h0,h7,uu,_,rfl,hrow6⟩,by omega⟩
    ·have ei:k=6:=by omega
     subst ei
     simp (disch:=omega) only[push_cast,qE,h0,h7,h8,h9]
     (refine Exists.elim (hrw.ends) (fun M0 hz=>?_); have hM0:=hz.1; have hs0:=hz.2; clear hz)
     (refine Exists.elim (hM0) (fun cs0 hz=>?_); have ez:=hz.1; subst ez; have hcs0:=hz.2; clear hz)
     refine ⟨i+1,_,fun w hw=>(hs0 w hw).perm ?_,⟨rfl,rfl,by omega,h0,uu,.slice vma (i+1) vmc,Rm',dl++[⟨x,b,c,oVs b cs0::K0⟩],?_,?_,?_,?_,rfl⟩,by omega⟩
     ·rw[ownD_append,ownD_one]
      exact pC
     ·simpa [Dr.more] using hRm'
     ·simp[hdl]
     ·intro j d hd
      rcases Nat.lt_or_ge j dl.length with hj|hj
      ·rw[List.getElem?_append_left hj] at hd
       exact hok j d hd
      ·have hji:j=dl.length:=by
        have:=(List.getElem?_eq_some_iff.1 hd).1
        simp at this; omega
       subst hji
       simp only[List.getElem?_append_right (Nat.le_refl _),Nat.sub_self,List.getElem?_cons_zero,Option.some.injEq] at hd
       subst hd
       rw[hdl]
       refine ⟨⟨hxo.2,⟨cs0,.head _,hcs0⟩,?_⟩,hx⟩
       show x.n=0∨_
       rcases hK0 with ⟨rfl,q⟩|q
       ·have q2:=q cs0
        rcases (q cs rfl hct).2 with q3|⟨b',cs',q4,q5,q6⟩
        ·exact .inl q3
        ·refine .inr ⟨b',cs0,q4,?_,?_⟩
         ·rw[List.mem_singleton,Prod.mk.injEq] at q5
          rw[q5.1]
          exact .head _
         ·have e1:cs0.take (x.n * 4)=(cs0.take ((x.n+1) * 4)).take (x.n * 4):=by rw[List.take_take,Nat.min_eq_left (by omega)]
          rw[e1,hcs0,marks,← marks_len i x.n,List.take_left]
       ·rcases q.2 with q3|⟨b',cs',q4,q5,q6⟩
        ·exact .inl q3
        ·exact .inr ⟨b',cs',q4,.tail _ q5,q6⟩
     ·intro p hp
      rw[ownD_append,ownD_one] at hp
      rcases List.mem_append.1 hp with hp|hp
      ·exact hdn p hp
      rcases List.mem_cons.1 hp with rfl|hp
      ·exact hbn
      ·exact hK0n p hp
   have ei:i=xs.length:=by omega
   subst ei
   rw[List.drop_length,show ownR (mrkd xs.length [])++M=M from rfl]
   simp (disch:=omega) only[push_cast,qE,h0,h7]
   rw[Vb]
   simp (disch:=omega) only[push_cast,qE,h0]
   refine loopW (G:=Nat) (fun _=>ApE wb bk (oBk bk (.slice (some ⟨rb,0,none⟩) xs.length cap) vm::oWs rb ws::(Rm++(ownD dl++M))) 10) (fun i=>i) 0 _ (fun w hw=>hw) (by kernel_rfl) ⟨rfl,rfl,h0,rfl,rfl⟩ ?_
   clear h0
   rintro - wb e ds L ⟨rfl,rfl,h0,h3,rfl⟩
   simp (disch:=omega) only[push_cast,qE,h0,h3]
   refine lOn Shp.eq mem0 rfl ?_
   simp (disch:=omega) only[push_cast,qE,h0,h3]
   rw[Vc]
   simp (disch:=omega) only[push_cast,qE,h0,h3]
   refine cdD (fun h=>by exfalso; omega) (fun _=>?_)
   simp (disch:=omega) only[push_cast,qE,h0,h3]
   rw[Vb]
   simp (disch:=omega) only[push_cast,qE,h0]
   refine loopW (G:=Nat) (Ap5 wb bk xs.length (oBk bk (.slice (some ⟨rb,0,none⟩) xs.length cap) vm::oWs rb ws::(Rm++(ownD dl++M)))) (fun i=>xs.length - i) 0 _ (fun w hw=>hw) (by kernel_rfl) ⟨rfl,rfl,by omega,h0,rfl,rfl⟩ ?_
   clear h0 h3 hi hge
   rintro i wb e ds L ⟨rfl,rfl,hi,h0,h13,rfl⟩
   simp (disch:=omega) only[push_cast,qE,h0,h13]
   refine lOn Shp.eq mem0 rfl ?_
   simp (disch:=omega) only[push_cast,qE,h0,h13]
   rw[Vc]
   simp (disch:=omega) only[push_cast,qE,h0,h13]
   refine cdD (fun hlt=>?_) (fun hge=>?_)
   ·obtain ⟨x,hx⟩:∃ x,xs[i]?=some x:=⟨_,qH (by omega)⟩
    (refine Exists.elim ((⟨_,qH (by omega)⟩:∃ d,dl[i]?=some d)) (fun d hz=>?_); have hd:=hz; clear hz)
    have hway:=ways_at hx hws
    have hD:=(hok i d hd).1
    have hdx:x=d.x:=by have:=(hok i d hd).2; rw[hx] at this; exact Option.some.inj this
    subst hdx
    have hdn2:=hD.hn
    (refine xe3 (RowO.get hRm (by omega)) (fun rm rmc rcs hz=>?_); have ez:=hz.1; subst ez; have ez:=hz.2.1; subst ez; have hrm5:=hz.2.2; clear hz)
    have hmore:rcs[i]?=some d.more:=by
     have q1:(rcs.take (xs.length * 1))[i]?=some d.more:=by rw[hrm5,List.getElem?_map,hd]; rfl
     rwa [List.getElem?_take,if_pos (by omega)] at q1
    simp (disch:=omega) only[push_cast,qE,h0,h13]
    rw[Vb]
    simp (disch:=omega) only[push_cast,qE,h0,h13]
    refine lOn Shp.eq mem0 rfl ?_
    simp (disch:=omega) only[push_cast,qE,h0,h13]
    refine lOn Shp.eq mem1 (by rw[Nat.mul_one]; exact hway) ?_
    simp (disch:=omega) only[push_cast,qE,h0,h13]
    refine callV en_35 (cIs (fun w' hw'=>valued_walk w' d.x.at_ d.x.n d.x.c i (by omega) (by omega) (fun k hk=>?_)) ?_)
    ·rcases hD.hx with q|⟨b,cs,q1,q2,q3⟩
     ·omega
     ·exact ⟨b,by rw[Rw.at_,q1]; rfl,mark_at hw' (.tail _ (.tail _ (.tail _ (List.mem_append_left _ (ownD_mem hd _ q2))))) q3 hk⟩
    simp (disch:=omega) only[push_cast,qE,h0,h13]
    refine lOn Shp.eq mem0 rfl ?_
    simp (disch:=omega) only[push_cast,qE,h0,h13]
    refine lOn Shp.eq (.tail _ (.tail _ (.head _))) (by rw[Nat.mul_one]; exact hmore) ?_
    simp (disch:=omega) only[push_cast,qE,h0,h13]
    refine callV en_35 (cIs (fun w' hw'=>valued_walk w' (some ⟨d.b,0,none⟩) (d.x.n+1) d.c i (by omega) (by omega) (fun k hk=>?_)) ?_)
    ·obtain ⟨cs,q2,q3⟩:=hD.ho
     exact ⟨d.b,rfl,mark_at hw' (.tail _ (.tail _ (.tail _ (List.mem_append_left _ (ownD_mem hd _ q2))))) q3 hk⟩
    simp (disch:=omega) only[push_cast,qE,h0,h13,Bool.not_true]
    rw[Vc]
    simp (disch:=omega) only[push_cast,qE,h0,h13]
    exact ⟨i+1,_,fun w hw=>hw,⟨rfl,rfl,by omega,h0,uu,rfl⟩,by omega⟩
   simp (disch:=omega) only[push_cast,qE,h0,h13]
   rw[Vb]
   simp (disch:=omega) only[push_cast,qE,h0]
   refine loopW (G:=Nat) (fun _=>ApE wb bk (oBk bk (.slice (some ⟨rb,0,none⟩) xs.length cap) vm::oWs rb ws::(Rm++(ownD dl++M))) 16) (fun i=>i) 0 _ (fun w hw=>hw) (by kernel_rfl) ⟨rfl,rfl,h0,rfl,rfl⟩ ?_
   clear h0
   rintro - wb e ds L ⟨rfl,rfl,h0,h3,rfl⟩
   simp (disch:=omega) only[push_cast,qE,h0,h3]
   refine lOn Shp.eq mem0 rfl ?_
   simp (disch:=omega) only[push_cast,qE,h0,h3]
   rw[Vc]
   simp (disch:=omega) only[push_cast,qE,h0,h3]
   refine cdD (fun h=>by exfalso; omega) (fun _=>?_)
   simp (disch:=omega) only[push_cast,qE,h0,h3]
   refine fun w' hw'=>?_
   refine Sy.left (A:=oBk bk (.slice (some ⟨rb,0,none⟩) xs.length cap) vm::oWs rb ws::(Rm++ownD dl)) (hw'.perm (pC)) (fun p hp=>?_)
   rcases List.mem_cons.1 hp with rfl|hp
   ·exact hbk
   rcases List.mem_cons.1 hp with rfl|hp
   ·exact hrb
   rcases List.mem_append.1 hp with hp|hp
   ·exact hRm.new (by simp) p hp
   ·exact hdn p hp
  (refine Exists.elim ((⟨_,qH (by omega)⟩:∃ x,xs[i]?=some x)) (fun x hz=>?_); have hx:=hz; clear hz)
  have hxo:=hxs x (List.mem_of_getElem? hx)
  have hway:=ways_at hx hws
  simp (disch:=omega) only[push_cast,qE,h0,h3]
  rw[Vb]
  simp (disch:=omega) only[push_cast,qE,h0,h3]
  rw[Vb]
  simp (disch:=omega) only[push_cast,qE,h0,h3]
  refine loopW (G:=Nat) (Ap2 wb bk rb cap xs.length ws (ownR (mrkd 0 (xs.take i))++(ownR (xs.drop (i+1))++M)) x i) (fun k=>x.n - k) 0 _ (fun w hw=>hw.perm (?_:List.Perm _ ((x.mrk i 0).own++(oBk bk (.slice (some ⟨rb,0,none⟩) xs.length cap) (.slice none 0 0)::oWs rb ws::(ownR (mrkd 0 (xs.take i))++(ownR (xs.drop (i+1))++M)))))) (by kernel_rfl) ⟨rfl,rfl,by omega,h0,h3,rfl,rfl⟩ ?_
  ·rw[Rw.mrk_zero,ownR_drop hx,List.append_assoc]
   exact (((List.perm_append_comm_assoc _ _ _).cons _).cons _).trans (List.perm_append_comm_assoc [_,_] _ _)
  clear h0 h3 e
  rintro k wb e ds L ⟨rfl,rfl,hk,h0,h3,h4,rfl⟩
  have hm0:∀ p,p∈(x.mrk i k).own++(oBk bk (.slice (some ⟨rb,0,none⟩) xs.length cap) (.slice none 0 0)::oWs rb ws::(ownR (mrkd 0 (xs.take i))++(ownR (xs.drop (i+1))++M)))→True:=fun _ _=>trivial
  simp (disch:=omega) only[push_cast,qE,h0,h3,h4]
  refine lOn Shp.eq (qR _ (.head _)) rfl ?_
  simp (disch:=omega) only[push_cast,qE,h0,h3,h4]
  refine lOn Shp.eq (qR _ (.tail _ (.head _))) (by rw[Nat.mul_one]; exact hway) ?_
  simp (disch:=omega) only[push_cast,qE,h0,h3,h4,Rw.way]
  rw[Vc]
  simp (disch:=omega) only[push_cast,qE,h0,h3,h4]
  refine cdD (fun hlt2=>?_) (fun hge=>?_)
  rotate_left
  ·have ei:k=x.n:=by omega
   subst ei
   simp (disch:=omega) only[push_cast,qE,h0,h3,h4]
   refine ⟨i+1,_,fun w hw=>hw.perm ?_,⟨rfl,rfl,by omega,h0,uu,rfl⟩,by omega⟩
   rw[mrkd_succ hx,List.append_assoc]
   exact pC
  have hbx:∃ b,x.b=some b:=by
   rcases hxo.1 with ⟨_,q,_⟩|⟨q,_⟩
   ·omega
   ·exact Option.ne_none_iff_exists'.1 q
  (refine Exists.elim (hbx) (fun b hz=>?_); have hb:=hz; clear hz)
  have hat:x.at_=some ⟨b,0,none⟩:=by unfold Rw.at_; rw[hb]; rfl
  have hcl:k * 4+4≤(x.mrk i k).cs.length:=by
   rcases hxo.1 with ⟨_,q,_⟩|⟨_,q1,_,q2⟩
   ·omega
   ·show _≤(marks i k++x.cs.drop (k * 4)).length
    rw[List.length_append,marks_len,List.length_drop,q2]
    have:=Nat.mul_le_mul_right 4 q1
    omega
  simp (disch:=omega) only[push_cast,qE,h0,h3,h4]
  rw[Vb]
  simp (disch:=omega) only[push_cast,qE,h0,h3,h4]
  refine lOn Shp.eq (qR _ (.head _)) rfl ?_
  simp (disch:=omega) only[push_cast,qE,h0,h3,h4]
  refine lOn Shp.eq (qR _ (.tail _ (.head _))) (by rw[Nat.mul_one]; exact hway) ?_
  simp (disch:=omega) only[push_cast,qE,h0,h3,h4,Rw.way,hat]
  refine storeX_weak (L':=oVs b (x.mrk i k).cs::(oBk bk (.slice (some ⟨rb,0,none⟩) xs.length cap) (.slice none 0 0)::oWs rb ws::(ownR (mrkd 0 (xs.take i))++(ownR (xs.drop (i+1))++M)))) (fun w hw=>by rw[mrk_own_some hb] at hw; exact hw) (stX 0 rfl Siz.eq rfl rfl (by simp[qC]) (un hcl) ?_)
  simp (disch:=omega) only[push_cast,qE,h0,h3,h4]
  refine ⟨k+1,_,fun w hw=>hw,⟨rfl,rfl,by omega,h0,h3,uu,?_⟩,by omega⟩
  rw[mrk_own_some hb,← Rw.mrk_succ hxo.1 i k (by omega)]
  simp[markC,splice]

end Go.Proofs.YtilejcofleeeiaaGreatDoor
