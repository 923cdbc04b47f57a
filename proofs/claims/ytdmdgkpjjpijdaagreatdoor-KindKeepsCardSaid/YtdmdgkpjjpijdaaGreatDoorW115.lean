/- YtdmdgkpjjpijdaaGreatDoor: walks, part 111: a list of fields copied: each list in a block of its own. -/
import Derived.Test.YtdmdgkpjjpijdaaGreatDoorW61
import Derived.Test.YtdmdgkpjjpijdaaGreatDoorW116
import Derived.Test.YtdmdgkpjjpijdaaGreatDoorW78
namespace Go.Proofs.YtdmdgkpjjpijdaaGreatDoor
open Go Go.K
open Nat renaming reduceEqDiff → qE
open List renaming mem_cons → qM, mem_append_right → qR, mem_append → qP, mem_nil_iff → qI
set_option maxRecDepth 100000
set_option linter.unusedVariables false
set_option linter.unusedSimpArgs false
set_option maxHeartbeats 1000000
mutual
theorem okS_wide:∀ (f:Fld),okS f=true→wideF 32 f=true
 | .mk nm nl k wd id ix sub,h=>by
  have h1:=(okS_iff _).1 h
  rw[wideF,Bool.and_eq_true]
  exact ⟨decide_eq_true h1.1,okT_wide sub h1.2⟩
theorem okT_wide:∀ (l:List Fld),okT l=true→wideL 32 l=true
 | [],_=>by rw[wideL]
 | f::l,h=>by
  rw[wideL,Bool.and_eq_true]
  rw[okT,Bool.and_eq_true] at h
  exact ⟨okS_wide f h.1,okT_wide l h.2⟩
end
def CopyO (v:Value) (M:Own) (l:List Fld):Prop:=∃ a c,v=.slice a l.length c∧OwS l M a c
def CopyOOK (n:Nat):Prop:=∀ (w:World) (lo:Nat) (l:List Fld) (a:Option Addr) (c:Nat),lo≤w.heap.size→Rd w lo a l→l.length≤c→c≤9223372036854775807→l.length≤32→okT l=true→SizeOf.sizeOf l < n →
 Calls Tryz.prog 60 #[.slice a l.length c] w (RetsN w (fun v M=>CopyO v M l))
structure CpOI (w0:World) (l:List Fld) (a:Option Addr) (c:Nat) (i:Nat) (wb:World) (e:Env) (ds:List Deferred) (L:Own):Prop where
 hw:wb=w0
 hds:ds=[]
 o:∃ A xs,RowO w0 37 7 L A (e 3) i xs∧(∀ p∈A,w0.heap.size≤p.1)∧OwK (l.take i) A xs
 il:i≤l.length
 h6:e 6=.slice a l.length c
 h7:e 7=i64 l.length
 h8:e 8=i64 i
theorem copiedO_step (n:Nat) (hC:∀ m,m < n→CopyOOK m):CopyOOK n:=by
 intro w lo l a c hlo hr hc hc2 hl32 hok hsz
 refine enterB (args:=[.slice a l.length c]) Tryz.func60 rfl Tryz.ntmps60 (congrArg Array.toList Tryz.results60) (by kernel_rfl) (by simp) (Sy.refl w) ?_
 refine sp ?_
 repeat' (first|((first|((first|refine gT rfl ?_ ?_|refine gF rfl ?_ ?_|refine cdD ?_ ?_)<;>intro h)|((first|refine gbT rfl ?_ ?_|refine gbF rfl ?_ ?_|refine cdB ?_ ?_)<;>intro h<;>(try subst h))|refine lOa Shp.eq rfl ?_|refine lAa Shp.eq rfl rfl ?_|refine newI (fun b hb hn=>?_)|refine sXb Siz.eq rfl rfl ?_)<;>simp (disch:=omega) only[push_cast,qE]))
 rw[Vb]
 refine sp ?_
 refine loopW (G:=Nat) (CpOI w l a c) (fun i=>l.length - i) 0 [] (fun w hw=>hw) (by kernel_rfl) ⟨rfl,rfl,⟨[],[],⟨rfl,.inl ⟨rfl,rfl,rfl⟩⟩,by simp,.nil⟩,by omega,rfl,rfl,rfl⟩ ?_
 rintro i wb e ds L ⟨rfl,rfl,⟨A,xs,hro,hA,hx⟩,hil,h6,h7,h8⟩
 obtain ⟨v0,h3⟩:∃ v0,e 3=v0:=⟨_,rfl⟩
 rw[h3] at hro
 have hLn:=hro.new hA
 simp (disch:=omega) only[push_cast,qE,h3,h6,h7,h8]
 rw[Vc]
 simp (disch:=omega) only[push_cast,qE,h3,h6,h7,h8]
 refine cdD (fun hlt=>?_) (fun hge=>?_)
 ·obtain ⟨f,hf⟩:∃ f,l[i]?=some f:=⟨_,List.getElem?_eq_getElem (by omega)⟩
  obtain ⟨hs1,hs2⟩:=(okS_iff f).1 (okT_get hok hf)
  have hszf:SizeOf.sizeOf f.sub+1 < n:=by
   have h1:=List.sizeOf_lt_of_mem (List.mem_of_getElem? hf)
   have:SizeOf.sizeOf f.sub < SizeOf.sizeOf f:=by cases f; simp only[Fld.sub,Fld.mk.sizeOf_spec]; omega
   omega
  obtain ⟨b,off,rfl,hb⟩:∃ b off,a=some ⟨b,off,none⟩∧b < lo:=by
   obtain ⟨f0,l0,rfl⟩:∃ f l',l=f::l':=List.exists_cons_of_ne_nil (by rintro rfl; simp at hf)
   exact hr.some_of
  obtain ⟨fa,fc,x1,x2,x3,x4,x5,x6⟩:=hr.get i hf
  simp (disch:=omega) only[push_cast,qE,h3,h6,h7,h8]
  rw[Vb]
  simp (disch:=omega) only[push_cast,qE,h3,h6,h7,h8]
  refine ldAggF Shp.eq x2 rfl (out_of (fun p hp=>Nat.lt_of_lt_of_le (Nat.lt_of_lt_of_le x1 hlo) (hLn p hp))) ?_
  simp (disch:=omega) only[push_cast,qE,h3,h6,h7,h8,Fld.cells]
  refine newI (fun b5 hb5 hn5=>?_)
  simp (disch:=omega) only[push_cast,qE,h3,h6,h7,h8]
  repeat' (first|((first|((first|refine gT rfl ?_ ?_|refine gF rfl ?_ ?_|refine cdD ?_ ?_)<;>intro h)|((first|refine gbT rfl ?_ ?_|refine gbF rfl ?_ ?_|refine cdB ?_ ?_)<;>intro h<;>(try subst h))|refine lOa Shp.eq rfl ?_|refine lAa Shp.eq rfl rfl ?_|refine newI (fun b hb hn=>?_)|refine sXb Siz.eq rfl rfl ?_)<;>simp (disch:=omega) only[push_cast,qE,h3,h6,h7,h8]))
  have hL5:∀ x:Obj,∀ p∈((b5,x)::L),wb.heap.size≤p.1:=fun x p hp=>by
   rcases List.mem_cons.1 hp with rfl|hp
   ·exact hb5
   ·exact hLn p hp
  refine callV en_60 (cNw (fun w' hw'=>hC (SizeOf.sizeOf f.sub+1) hszf w' lo f.sub fa fc (Nat.le_trans hlo hw'.size) (x6.sy hlo hw' (fun p hp=>Nat.le_trans hlo (hL5 _ p hp))) x3 x5 hs1 hs2 (by omega)) (fun v M hM hMn hS=>?_))
  obtain ⟨a2,c2,rfl,hO⟩:=hS
  simp (disch:=omega) only[push_cast,qE,h3,h6,h7,h8]
  refine storeX_weak (L':=(qb0 b5 f fa fc)::(M++L)) (fun w hw=>hw.perm List.perm_middle) (sXa 0 rfl Siz.eq rfl rfl ?_)
  simp (disch:=omega) only[push_cast,qE,h3,h6,h7,h8]
  refine lAg Shp.eq mem0 rfl rfl ?_
  simp (disch:=omega) only[push_cast,qE,h3,h6,h7,h8]
  refine bs_24_1 (newI fun b9 hb9 hn9=>?_)
  simp (disch:=omega) only[push_cast,qE,h3,h6,h7,h8]
  obtain ⟨R,rfl,hR⟩:=RowO.unframe hro
  have hMA:∀ p∈A++M,wb.heap.size≤p.1:=(nA hA hM)
  have hbb:∀ (x y:Obj),∀ p∈((b9,x)::(b5,y)::(A++M)),wb.heap.size≤p.1:=fun x y p hp=>by
   simp only[qM] at hp
   rcases hp with rfl|rfl|hp
   ·exact hb9
   ·exact hb5
   ·exact hMA p hp
  refine valX_weak (L':=R++((qb0 b9 f a2 c2)::(qb0 b5 f a2 c2)::(A++M))) (fun w hw=>hw.perm (by
   have p1:(M++(R++A)).Perm (R++(A++M)):=by rw[← List.append_assoc R A M]; exact List.perm_append_comm
   exact ((p1.cons _).cons _).trans ((List.perm_middle.symm.cons _).trans List.perm_middle.symm))) (appendI un_24 infoFldC rfl (m:=1) (news:=[str f.nm,.bool f.nl,i64 f.k,i64 f.wd,i64 f.id,i64 f.ix,.slice a2 f.sub.length c2]) (RowO.frame hR) rfl (CanRead.of_own (e:=37) (b:=b9) (cs:=[str f.nm,.bool f.nl,i64 f.k,i64 f.wd,i64 f.id,i64 f.ix,.slice a2 f.sub.length c2]) (n:=7) (by simp) rfl rfl) (by simp[Value.oneCell']) (by simp only[maxLen]; omega) (by omega) (fun v5 L5 hro5 _=>?_))
  simp (disch:=omega) only[push_cast,qE,h3,h6,h7,h8]
  obtain ⟨L6,hro6,hs6⟩:=RowO.shrink [(qb0 b9 f a2 c2),(qb0 b5 f a2 c2)] hro5 (fun p hp=>by
   simp only[qM,qI,or_false] at hp
   rcases hp with rfl|rfl
   ·exact hb9
   ·exact hb5)
  refine ⟨i+1,L6,hs6,⟨rfl,rfl,⟨A++M,_,hro6,hMA,?_⟩,by omega,h6,h7,uu⟩,by omega⟩
  rw[List.take_add_one,hf,Option.toList_some]
  exact OwK.append (OwK.single (hO.toF x4)) hx
 ·obtain rfl:i=l.length:=by omega
  rw[List.take_length] at hx
  obtain ⟨va,vc,rfl⟩:=hro.is_slice
  have hle:=RowO.le hro
  simp (disch:=omega) only[push_cast,qE,h3,h6,h7,h8]
  refine callV en_93 (cIs (fun w' hw'=>clip_walk w' va l.length vc hle.2.1 hle.2.2) ?_)
  simp (disch:=omega) only[push_cast,qE,h3,h6,h7,h8]
  obtain ⟨h0,⟨q1,q2,q3⟩|⟨b,cap,cs,q1,q2,q3,q4,q5,q6,q7⟩⟩:=hro
  ·obtain rfl:=List.eq_nil_of_length_eq_zero q2
   rw[OwK] at hx
   obtain ⟨rfl,rfl⟩:=hx
   injection q1 with r1 r2 r3
   refine fun w' hw'=>⟨_,L,rfl,hw',hLn,va,0,rfl,?_⟩
   subst q3
   exact (OwS_iff _ _ _ _).2 (.inl ⟨rfl,r1,rfl,rfl⟩)
  ·injection q1 with r1 r2 r3
   refine fun w' hw'=>⟨_,L,rfl,hw',hLn,va,l.length,rfl,?_⟩
   exact (OwS_iff _ _ _ _).2 (.inr ⟨b,cap,cs,xs,A,r1,q2,Nat.le_refl _,q4,.inr rfl,q5,q6,q7,hx⟩)
theorem copiedO_walk (w:World) (lo:Nat) (l:List Fld) (a:Option Addr) (c:Nat) (hlo:lo≤w.heap.size) (hr:Rd w lo a l) (hc:l.length≤c) (hc2:c≤9223372036854775807) (hl:l.length≤32) (hok:okT l=true) :
 Calls Tryz.prog 60 #[.slice a l.length c] w (RetsN w (fun v M=>CopyO v M l)):=by
 have key:∀ n,∀ m,m < n→CopyOOK m:=fun n=>by
  induction n with
  | zero=>intro m h; omega
  | succ n ih =>
   intro m hm
   exact copiedO_step m fun k hk=>ih k (by omega)
 exact key (SizeOf.sizeOf l+2) (SizeOf.sizeOf l+1) (by omega) w lo l a c hlo hr hc hc2 hl hok (by omega)
structure YieldO (wb:World) (M0:Own) (ns:List FNode) (I J:Nat→Own→Prop) (yv:Value):Prop where
 hen:∀ g first cap,yv=.func (.func g) first cap→entersB Tryz.prog g=true
 apart:∀ k C,I k C→∀ p∈C,wb.heap.size≤p.1
 apartJ:∀ k C,J k C→∀ p∈C,wb.heap.size≤p.1
 call:∀ k n,ns[k]?=some n→∀ (C K M:Own) (bw cap:Nat) (cs:List Value) (fa:Option Addr) (fc:Nat),I k C→n.path.length≤cap→cap≤maxLen→cs.length=cap→cs.take n.path.length=ints n.path →
  OwF n.f K fa fc→n.path.length≤65→(∀ p∈((bw,Obj.cells cs.toArray 3 (0,0))::K)++M,wb.heap.size≤p.1)→(∀ p∈M0,p∈M) →
  ∀ w,Sy wb (C++(((bw,Obj.cells cs.toArray 3 (0,0))::K)++M)) w→CallsV Tryz.prog yv #[.slice (some ⟨bw,0,none⟩) n.path.length cap,.agg (n.f.cells fa fc).toArray] w (fun e w' =>
   (e=.returned (.bool true)∧∃ C',I (k+1) C'∧Sy wb (C'++M) w')∨(e=.returned (.bool false)∧∃ C',J k C'∧Sy wb (C'++M) w'))
theorem owalk1_walk (wb:World) (M0:Own) (ns:List FNode) (I J:Nat→Own→Prop) (yv:Value) (hyc:yv.cells=#[yv]) (hy1:yv.oneCell'=true) (hy:YieldO wb M0 ns I J yv) (w:World) (C M:Own) (b3:Nat) (l:List Fld) (va:Option Addr) (vc:Nat)
 (hw:Sy wb (C++M) w) (hI:I 0 C) (hM:∀ p∈M,wb.heap.size≤p.1) (hM0:∀ p∈M0,p∈M) (hb3:(qb11 b3 va l.length vc)∈M) (hr:RdX (fun w=>Held w M) va l) (hc:l.length≤vc) (hc2:vc≤9223372036854775807) (hok:∀ x∈ns,okS x.f=true) (hns:ns=nd 64 [] false l) :
 Calls Tryz.prog 61 #[yv,.pointer (some ⟨b3,0,none⟩)] w (fun e w'=>e=.returned (.tuple #[])∧((∃ C',I ns.length C'∧Sy wb (C'++M) w')∨(∃ j C',J j C'∧Sy wb (C'++M) w'))):=by
 refine enterMB (args:=[yv,.pointer (some ⟨b3,0,none⟩)]) Tryz.func61 rfl Tryz.ntmps61 (congrArg Array.toList Tryz.results61) (by kernel_rfl) (by simp) hw ?_
 refine sp ?_
 rw[hyc]
 refine newI (fun b2 hb2 hn2=>?_)
 refine sp ?_
 refine lOn Shp.eq (.tail _ (qR _ hb3)) rfl ?_
 refine sp ?_
 refine callV en_54 (cNw (fun w' _=>all_walk w' va l.length vc 64) (fun v M2 hM2 hMn2 ⟨bl,bo,hne,hv,hMM⟩=>?_))
 subst hv; subst hMM
 refine sp ?_
 rw[Vb]
 refine sp ?_
 refine forgetS (fun e=>e 2=.pointer (some ⟨b2,0,none⟩)∧e 5=.func (.func 83) #[] #[.pointer (some ⟨bo,0,none⟩),.pointer (some ⟨bl,0,none⟩)]) ⟨rfl,rfl⟩ ?_
 rintro e ⟨e2,e5⟩
 refine rangeY rfl e5 en_83 (fun fn tm d lr rec hrec htm hdl hd hlr hdn hlrn w' hw'=>?_)
 have hM2':∀ p∈[(bo,Obj.cells #[i64 64] 3 (0,0)),(qb11 bl va l.length vc)],wb.heap.size≤p.1:=hM2
 have hMM:∀ p∈[(bo,Obj.cells #[i64 64] 3 (0,0)),(qb11 bl va l.length vc)]++M,wb.heap.size≤p.1:=(nA hM2' hM)
 have hdrop:∀ (C1:Own) (x y z:Obj) (w':World),Sy wb ((lr,x)::(d,y)::(b2,z)::(C1++([(bo,Obj.cells #[i64 64] 3 (0,0)),(qb11 bl va l.length vc)]++M))) w'→Sy wb (C1++M) w':=fun C1 x y z w' hw'=>hw'.drop ((((List.Sublist.append_left (List.sublist_append_right _ M) C1).cons _).cons _).cons _) (fun p hp=>by
  simp only[qM,qP] at hp ⊢
  rcases hp with rfl|rfl|rfl|hp|(rfl|rfl|hp)|hp
  ·exact .inr hlr
  ·exact .inr hd
  ·exact .inr hb2
  ·exact .inl (.inl hp)
  ·exact .inr (hM2' (bo,_) (.head _))
  ·exact .inr (hM2' (bl,_) (.tail _ (.head _)))
  ·cases hp
  ·exact .inl (.inr hp))
 refine (all1x_walk wb (fun w=>Held w M) M ns
  (fun k C'=>∃ C,I k C∧C'=(lr,.loop rec)::(d,.deferred (some []))::(b2,Obj.cells #[yv] 112 (0,0))::C)
  (fun k C'=>∃ C rec',J k C∧rec'.state=.done∧rec'.pending=some .ret∧C'=(lr,.loop rec')::(d,.deferred (some []))::(b2,Obj.cells #[yv] 112 (0,0))::C) (fun k C M w _ _ h0 hw=>Held.of_sy hw (fun p hp=>qR _ (h0 p hp)))
  (.func (.yield lr) #[] #[]) rfl rfl ⟨(by intro g f c h; cases h),?_,?_⟩ 64 (by omega) (by omega) w' ((lr,.loop rec)::(d,.deferred (some []))::(b2,Obj.cells #[yv] 112 (0,0))::C) ([(bo,Obj.cells #[i64 64] 3 (0,0)),(qb11 bl va l.length vc)]++M) bo bl l va vc
  (hw'.perm (((List.perm_middle.trans ((List.perm_append_comm_assoc [(bo,Obj.cells #[i64 64] 3 (0,0)),(qb11 bl va l.length vc)] C M).cons _)).cons _).cons _)) ⟨C,hI,rfl⟩ hMM (fun p hp=>qR _ hp) (.head _) (.tail _ (.head _)) hr hc hc2 hns).mono ?_
 ·rintro k C' ⟨C,hI,rfl⟩ p hp
  simp only[qM] at hp
  rcases hp with rfl|rfl|rfl|hp
  ·exact hlr
  ·exact hd
  ·exact hb2
  ·exact hy.apart _ _ hI p hp
 ·rintro k n hkn C' Mx bw cap cs fa aa fc ac ⟨C,hI,rfl⟩ hbw hpc hcm hcl hct hrf hfc hfc2 hnm hra hac hac2 hpl hMx hM0x w2 hw2
  have hCl:=hy.apart _ _ hI
  obtain ⟨bz,hbz⟩:∃ bz:Loop,bz={ rec with state:=.busy }:=⟨_,rfl⟩
  subst hrec
  refine roundX (i:=0) rfl htm rfl (by simp) (by kernel_rfl) (by kernel_rfl) ?_ w2 hw2
  simp (disch:=omega) only[push_cast,qE,e2,e5,placeV]
  refine newI (fun b7 hb7 hn7=>?_)
  simp (disch:=omega) only[push_cast,qE,e2,e5]
  repeat' (first|((first|((first|refine gT rfl ?_ ?_|refine gF rfl ?_ ?_|refine cdD ?_ ?_)<;>intro h)|((first|refine gbT rfl ?_ ?_|refine gbF rfl ?_ ?_|refine cdB ?_ ?_)<;>intro h<;>(try subst h))|refine lOa Shp.eq rfl ?_|refine lAa Shp.eq rfl rfl ?_|refine newI (fun b hb hn=>?_)|refine sXb Siz.eq rfl rfl ?_)<;>simp (disch:=omega) only[push_cast,qE,e2,e5]))
  refine ⟨1,rfl,?_⟩
  simp (disch:=omega) only[push_cast,qE,e2,e5]
  rw[Vb]
  simp (disch:=omega) only[push_cast,qE,e2,e5]
  have hb72:b7≠b2:=by rintro rfl; simp at hn7
  have hnd:(([(qb1 b7 bw n.path.length cap aa n.ah.length ac n.f fa fc n.ind),(b2,Obj.cells #[yv] 112 (0,0))]:Own).map (·.1)).Nodup:=by simp[hb72]
  have hLn:∀ p∈(qb1 b7 bw n.path.length cap aa n.ah.length ac n.f fa fc n.ind)::(lr,.loop bz)::(d,.deferred (some []))::(b2,Obj.cells #[yv] 112 (0,0))::(C++(bw,Obj.cells cs.toArray 3 (0,0))::Mx),wb.heap.size≤p.1:=fun p hp=>by
   simp only[qM,qP] at hp
   rcases hp with rfl|rfl|rfl|rfl|hp|rfl|hp
   ·exact hb7
   ·exact hlr
   ·exact hd
   ·exact hb2
   ·exact hCl p hp
   ·exact hbw
   ·exact hMx p hp
  have hMx0:∀ p∈M,p∈Mx:=hM0x
  have hpn:n.path.length≠0:=fun h=>by
   have h1:=List.mem_of_getElem? hkn
   rw[hns] at h1
   exact nd_path_ne 64 [] false l n h1 (List.eq_nil_of_length_eq_zero h)
  refine forgetS (fun e=>e 2=.pointer (some ⟨b2,0,none⟩)∧e 3=.pointer (some ⟨b7,0,none⟩)) ⟨e2,rfl⟩ ?_
  clear e2 e5 htm hn7 e
  rintro e ⟨e2,e3⟩
  refine freeTs [0,1,2,4,5] [3,6,7,8,9,10,11] [[3,6,7,8,9,10,11],[6,3,7,8,9,10,11]] [(qb1 b7 bw n.path.length cap aa n.ah.length ac n.f fa fc n.ind),(b2,Obj.cells #[yv] 112 (0,0))] (by kernel_rfl) mixed (by kernel_rfl) (by kernel_rfl) (by simp) (Stab.of_mem (by simp) hnd (by subst hbz; exact hLn)) ?_
  simp (disch:=omega) only[push_cast,qE,e2,e3]
  refine lOn Shp.eq mem1 rfl ?_
  simp (disch:=omega) only[push_cast,qE,e2,e3]
  refine lOn Shp.eq mem0 rfl ?_
  simp (disch:=omega) only[push_cast,qE,e2,e3]
  refine lAg Shp.eq mem0 rfl rfl ?_
  simp (disch:=omega) only[push_cast,qE,e2,e3]
  intro t ht
  simp only[qM,qI,or_false] at ht
  rcases ht with rfl|rfl

  ·refine sp ?_
   refine callV en_62 (callX_own (fun w' hw'=>clone_walk wb w' _ hw' _ n.path.length (ints n.path) ⟨by simp[ints],.inr ⟨bw,cap,cs,rfl,by simp,hpc,hcm,hcl,hct⟩⟩ (by omega) (ints_one _)) (fun v1 L1 hro=>?_))
   obtain ⟨hxl,⟨_,h0',_⟩|⟨bc,cap2,cs2,rfl,rfl,hbc,hcc1,hcc2,hccl,hcct⟩⟩:=hro
   ·exact absurd h0' hpn
   have hn1:∀ p∈(bc,Obj.cells cs2.toArray 3 (0,0))::(qb1 b7 bw n.path.length cap aa n.ah.length ac n.f fa fc n.ind)::(lr,.loop bz)::(d,.deferred (some []))::(b2,Obj.cells #[yv] 112 (0,0))::(C++(bw,Obj.cells cs.toArray 3 (0,0))::Mx),wb.heap.size≤p.1:=(nC hbc hLn)
   refine ⟨rfl,(Stab.of_mem (by simp) hnd (by subst hbz; exact hn1)),?_⟩
   refine sp ?_
   refine bs_24_1 (newI fun b13 hb13 hn13=>?_)
   have hnew:∀ p∈(qb0 b13 n.f fa fc)::(bc,Obj.cells cs2.toArray 3 (0,0))::(qb1 b7 bw n.path.length cap aa n.ah.length ac n.f fa fc n.ind)::(lr,.loop bz)::(d,.deferred (some []))::(b2,Obj.cells #[yv] 112 (0,0))::(C++(bw,Obj.cells cs.toArray 3 (0,0))::Mx),wb.heap.size≤p.1:=(nC hb13 hn1)
   have hp:((qb0 b13 n.f fa fc)::(bc,Obj.cells cs2.toArray 3 (0,0))::(qb1 b7 bw n.path.length cap aa n.ah.length ac n.f fa fc n.ind)::(lr,.loop bz)::(d,.deferred (some []))::(b2,Obj.cells #[yv] 112 (0,0))::(C++(bw,Obj.cells cs.toArray 3 (0,0))::Mx)).Perm (C++((bc,Obj.cells cs2.toArray 3 (0,0))::(qb0 b13 n.f fa fc)::(qb1 b7 bw n.path.length cap aa n.ah.length ac n.f fa fc n.ind)::(lr,.loop bz)::(d,.deferred (some []))::(b2,Obj.cells #[yv] 112 (0,0))::(bw,Obj.cells cs.toArray 3 (0,0))::Mx)):=(List.Perm.swap _ _ _).trans (List.perm_append_comm_assoc [(bc,Obj.cells cs2.toArray 3 (0,0)),(qb0 b13 n.f fa fc),(qb1 b7 bw n.path.length cap aa n.ah.length ac n.f fa fc n.ind),(lr,.loop bz),(d,.deferred (some [])),(b2,Obj.cells #[yv] 112 (0,0))] C ((bw,Obj.cells cs.toArray 3 (0,0))::Mx))
   refine ⟨rfl,(Stab.of_mem (by simp) hnd (by subst hbz; exact hnew)),?_⟩
   refine forgetF (fun e=>e 7=yv∧e 10=.slice (some ⟨bc,0,none⟩) n.path.length cap2∧e 13=.slice (some ⟨b13,0,none⟩) 1 1) ⟨rfl,rfl,rfl⟩ (fun e he=>?_)
   obtain ⟨h7,h10,h13⟩:=he
   simp (disch:=omega) only[push_cast,qE,h7,h10,h13]
   have hokn:=hok n (List.mem_of_getElem? hkn)
   refine callV en_60 (cNw (S:=fun v M=>CopyO v M [n.f]) (fun w' hw'=>copiedO_walk w' w'.heap.size [n.f] (some ⟨b13,0,none⟩) 1 (Nat.le_refl _) (.cons (hw'.lt (.head _)) hfc hnm hfc2 (At.of_own hw' (.head _) rfl) (hrf.toRd (Held.of_sy hw' (fun p hp=>.tail _ (.tail _ (.tail _ (.tail _ (.tail _ (.tail _ (qR _ (.tail _ (hMx0 p hp)))))))))))  (.nil _)) (by simp) (by omega) (by simp) (by simp only[okT,hokn,Bool.and_self])) (fun v M3 hM3 hMn3 hS=>?_))
   obtain ⟨a2,c2,rfl,hO⟩:=hS
   rcases (OwS_iff _ _ _ _).1 hO with ⟨z5,_⟩|⟨b5,cap5,cs5,xs5,K5,rfl,hM3e,_,_,_,_,_,htk,hK5⟩
   ·cases z5
   obtain ⟨K6,K7,a3,c3,cs7,hK67,hx7,hF3,hK7⟩:=hK5.cons_inv
   rw[OwK] at hK7
   obtain ⟨rfl,rfl⟩:=hK7
   rw[List.append_nil] at hK67 hx7
   have hK67':=hK67.symm
   subst hK67'
   subst hx7
   have hmb:(b5,Obj.cells cs5.toArray 37 (0,0))∈M3:=by rw[hM3e]; exact .head _
   have hM6:∀ p∈K6,wb.heap.size≤p.1:=fun p hp=>hM3 p (by rw[hM3e]; exact .tail _ hp)
   have hnew3:∀ p∈M3++((qb0 b13 n.f fa fc)::(bc,Obj.cells cs2.toArray 3 (0,0))::(qb1 b7 bw n.path.length cap aa n.ah.length ac n.f fa fc n.ind)::(lr,.loop bz)::(d,.deferred (some []))::(b2,Obj.cells #[yv] 112 (0,0))::(C++(bw,Obj.cells cs.toArray 3 (0,0))::Mx)),wb.heap.size≤p.1:=(nA hM3 hnew)
   have hst3:Stab wb (M3++((qb0 b13 n.f fa fc)::(bc,Obj.cells cs2.toArray 3 (0,0))::(qb1 b7 bw n.path.length cap aa n.ah.length ac n.f fa fc n.ind)::(lr,.loop bz)::(d,.deferred (some []))::(b2,Obj.cells #[yv] 112 (0,0))::(C++(bw,Obj.cells cs.toArray 3 (0,0))::Mx))) [(qb1 b7 bw n.path.length cap aa n.ah.length ac n.f fa fc n.ind),(b2,Obj.cells #[yv] 112 (0,0))]:=Stab.of_mem (by simp) hnd hnew3
   refine ⟨rfl,by subst hbz; exact hst3,?_⟩
   simp (disch:=omega) only[push_cast,qE,h7,h10,h13,List.length_singleton]
   refine ⟨by subst hbz; exact hst3,?_⟩
   refine lAg Shp.eq (List.mem_append_left _ hmb) (un htk) rfl ?_
   simp (disch:=omega) only[push_cast,qE,h7,h10,h13,Fld.cells]
   refine ⟨by subst hbz; exact hst3,?_⟩
   have hA:∀ C1:Own,(∀ p∈C1,wb.heap.size≤p.1)→∀ p∈(lr,.loop bz)::(d,.deferred (some []))::(b2,Obj.cells #[yv] 112 (0,0))::(C1++((qb0 b13 n.f fa fc)::(qb1 b7 bw n.path.length cap aa n.ah.length ac n.f fa fc n.ind)::(bw,Obj.cells cs.toArray 3 (0,0))::Mx)),wb.heap.size≤p.1:=fun C1 h1 p hp=>by
    simp only[qM,qP] at hp
    rcases hp with rfl|rfl|rfl|hp|rfl|rfl|rfl|hp
    ·exact hlr
    ·exact hd
    ·exact hb2
    ·exact h1 p hp
    ·exact hnew _ (.head _)
    ·exact hb7
    ·exact hbw
    ·exact hMx p hp
   have hN3:∀ p∈((bc,Obj.cells cs2.toArray 3 (0,0))::K6)++((qb0 b13 n.f fa fc)::(qb1 b7 bw n.path.length cap aa n.ah.length ac n.f fa fc n.ind)::(lr,.loop bz)::(d,.deferred (some []))::(b2,Obj.cells #[yv] 112 (0,0))::(bw,Obj.cells cs.toArray 3 (0,0))::Mx),wb.heap.size≤p.1:=fun p h=>by
    rcases List.mem_append.1 h with h|h
    ·rcases List.mem_cons.1 h with rfl|h
     ·exact hbc
     ·exact hM6 p h
    ·exact hnew p (hp.mem_iff.2 (qR C (.tail _ h)))
   have hq:∀ C1:Own,(C1++((qb0 b13 n.f fa fc)::(qb1 b7 bw n.path.length cap aa n.ah.length ac n.f fa fc n.ind)::(lr,.loop bz)::(d,.deferred (some []))::(b2,Obj.cells #[yv] 112 (0,0))::(bw,Obj.cells cs.toArray 3 (0,0))::Mx)).Perm ((lr,.loop bz)::(d,.deferred (some []))::(b2,Obj.cells #[yv] 112 (0,0))::(C1++((qb0 b13 n.f fa fc)::(qb1 b7 bw n.path.length cap aa n.ah.length ac n.f fa fc n.ind)::(bw,Obj.cells cs.toArray 3 (0,0))::Mx))):=fun C1=>(List.Perm.append_left C1 (List.perm_append_comm_assoc [(qb0 b13 n.f fa fc),(qb1 b7 bw n.path.length cap aa n.ah.length ac n.f fa fc n.ind)] [(lr,.loop bz),(d,.deferred (some [])),(b2,Obj.cells #[yv] 112 (0,0))] ((bw,Obj.cells cs.toArray 3 (0,0))::Mx))).trans (List.perm_append_comm_assoc C1 [(lr,.loop bz),(d,.deferred (some [])),(b2,Obj.cells #[yv] 112 (0,0))] ((qb0 b13 n.f fa fc)::(qb1 b7 bw n.path.length cap aa n.ah.length ac n.f fa fc n.ind)::(bw,Obj.cells cs.toArray 3 (0,0))::Mx))
   have hX:∀ p∈([(qb0 b13 n.f fa fc),(qb1 b7 bw n.path.length cap aa n.ah.length ac n.f fa fc n.ind)]:Own),wb.heap.size≤p.1:=fun p h=>by
    simp only[qM,qI,or_false] at h
    rcases h with rfl|rfl
    ·exact hb13
    ·exact hb7
   have hX2:∀ p∈([(qb0 b13 n.f fa fc),(qb1 b7 bw n.path.length cap aa n.ah.length ac n.f fa fc n.ind),(bw,Obj.cells cs.toArray 3 (0,0))]:Own),wb.heap.size≤p.1:=fun p h=>by
    simp only[qM,qI,or_false] at h
    rcases h with rfl|rfl|rfl
    ·exact hb13
    ·exact hb7
    ·exact hbw
   refine callV_two (fun L'=>∃ C1,I (k+1) C1∧L'=(lr,.loop bz)::(d,.deferred (some []))::(b2,Obj.cells #[yv] 112 (0,0))::(C1++((qb0 b13 n.f fa fc)::(qb1 b7 bw n.path.length cap aa n.ah.length ac n.f fa fc n.ind)::(bw,Obj.cells cs.toArray 3 (0,0))::Mx))) (fun L'=>∃ C1,J k C1∧L'=(lr,.loop bz)::(d,.deferred (some []))::(b2,Obj.cells #[yv] 112 (0,0))::(C1++((qb0 b13 n.f fa fc)::(qb1 b7 bw n.path.length cap aa n.ah.length ac n.f fa fc n.ind)::(bw,Obj.cells cs.toArray 3 (0,0))::Mx))) (by exact h7) (by simp (disch:=omega) only[push_cast,qE,h10]) hy.hen (fun w' hw'=>?_) ?_ ?_
   ·have hw2:Sy wb (M3++((qb0 b13 n.f fa fc)::(bc,Obj.cells cs2.toArray 3 (0,0))::(qb1 b7 bw n.path.length cap aa n.ah.length ac n.f fa fc n.ind)::(lr,.loop bz)::(d,.deferred (some []))::(b2,Obj.cells #[yv] 112 (0,0))::(C++(bw,Obj.cells cs.toArray 3 (0,0))::Mx))) w':=by subst hbz; exact hw'
    have hw6:Sy wb (K6++((qb0 b13 n.f fa fc)::(bc,Obj.cells cs2.toArray 3 (0,0))::(qb1 b7 bw n.path.length cap aa n.ah.length ac n.f fa fc n.ind)::(lr,.loop bz)::(d,.deferred (some []))::(b2,Obj.cells #[yv] 112 (0,0))::(C++(bw,Obj.cells cs.toArray 3 (0,0))::Mx))) w':=hw2.drop (by rw[hM3e]; exact (List.sublist_cons_self _ _).append_right _) (fun p hp=>by
     rcases List.mem_append.1 hp with hp|hp
     ·exact .inr (hM3 p hp)
     ·exact .inl (qR _ hp))
    refine (hy.call k n hkn C K6 ((qb0 b13 n.f fa fc)::(qb1 b7 bw n.path.length cap aa n.ah.length ac n.f fa fc n.ind)::(lr,.loop bz)::(d,.deferred (some []))::(b2,Obj.cells #[yv] 112 (0,0))::(bw,Obj.cells cs.toArray 3 (0,0))::Mx) bc cap2 cs2 a3 c3 hI hcc1 hcc2 (by omega) (un hcct) hF3 hpl hN3 (fun p hp=>.tail _ (.tail _ (.tail _ (.tail _ (.tail _ (.tail _ (hMx0 p (hM0 p hp)))))))) w' (hw6.perm (((List.Perm.append_left K6 hp).trans (List.perm_append_comm_assoc K6 C _)).trans (List.Perm.append_left C List.perm_middle)))).mono ?_
    rintro e5 w5 (⟨rfl,C1,h1,h2⟩|⟨rfl,C1,h1,h2⟩)
    ·exact .inl ⟨rfl,_,⟨C1,h1,rfl⟩,h2.perm (hq C1)⟩
    ·exact .inr ⟨rfl,_,⟨C1,h1,rfl⟩,h2.perm (hq C1)⟩
   ·rintro L' ⟨C1,hI1,rfl⟩
    have hs5:Stab wb ((lr,.loop bz)::(d,.deferred (some []))::(b2,Obj.cells #[yv] 112 (0,0))::(C1++((qb0 b13 n.f fa fc)::(qb1 b7 bw n.path.length cap aa n.ah.length ac n.f fa fc n.ind)::(bw,Obj.cells cs.toArray 3 (0,0))::Mx))) [(qb1 b7 bw n.path.length cap aa n.ah.length ac n.f fa fc n.ind),(b2,Obj.cells #[yv] 112 (0,0))]:=Stab.of_mem (by simp) hnd (hA C1 (hy.apart _ _ hI1))
    refine ⟨rfl,hs5,?_⟩
    simp (disch:=omega) only[push_cast,qE,h7]
    refine ⟨hs5,?_⟩
    rw[Vc]
    simp (disch:=omega) only[push_cast,qE,h7,Bool.not_true]
    subst hbz
    exact ⟨0,_,rfl,fun w4 hw4=>.inl ⟨rfl,_,⟨_::_::_::C1,⟨C1,hI1,rfl⟩,rfl⟩,hw4.mid (_::_::_::C1) _ hX⟩⟩
   ·rintro L' ⟨C1,hJ1,rfl⟩
    have hs5:Stab wb ((lr,.loop bz)::(d,.deferred (some []))::(b2,Obj.cells #[yv] 112 (0,0))::(C1++((qb0 b13 n.f fa fc)::(qb1 b7 bw n.path.length cap aa n.ah.length ac n.f fa fc n.ind)::(bw,Obj.cells cs.toArray 3 (0,0))::Mx))) [(qb1 b7 bw n.path.length cap aa n.ah.length ac n.f fa fc n.ind),(b2,Obj.cells #[yv] 112 (0,0))]:=Stab.of_mem (by simp) hnd (hA C1 (hy.apartJ _ _ hJ1))
    refine ⟨rfl,hs5,?_⟩
    simp (disch:=omega) only[push_cast,qE,h7]
    refine ⟨hs5,?_⟩
    rw[Vc]
    simp (disch:=omega) only[push_cast,qE,h7,Bool.not_false]
    subst hbz
    exact ⟨0,_,rfl,fun w4 hw4=>.inr ⟨rfl,_,⟨_::_::_::C1,⟨C1,_,hJ1,rfl,rfl,rfl⟩,rfl⟩,hw4.mid (_::_::_::C1) _ hX2⟩⟩
  ·refine sp ?_
   refine bs_24_1 (newI fun b13 hb13 hn13=>?_)
   have hn1:∀ p∈(qb0 b13 n.f fa fc)::(qb1 b7 bw n.path.length cap aa n.ah.length ac n.f fa fc n.ind)::(lr,.loop bz)::(d,.deferred (some []))::(b2,Obj.cells #[yv] 112 (0,0))::(C++(bw,Obj.cells cs.toArray 3 (0,0))::Mx),wb.heap.size≤p.1:=(nC hb13 hLn)
   refine ⟨rfl,(Stab.of_mem (by simp) hnd (by subst hbz; exact hn1)),?_⟩
   refine sp ?_
   refine callV en_62 (callX_own (fun w' hw'=>clone_walk wb w' _ hw' _ n.path.length (ints n.path) ⟨by simp[ints],.inr ⟨bw,cap,cs,rfl,by simp,hpc,hcm,hcl,hct⟩⟩ (by omega) (ints_one _)) (fun v1 L1 hro=>?_))
   obtain ⟨hxl,⟨_,h0',_⟩|⟨bc,cap2,cs2,rfl,rfl,hbc,hcc1,hcc2,hccl,hcct⟩⟩:=hro
   ·exact absurd h0' hpn
   have hnew:∀ p∈(bc,Obj.cells cs2.toArray 3 (0,0))::(qb0 b13 n.f fa fc)::(qb1 b7 bw n.path.length cap aa n.ah.length ac n.f fa fc n.ind)::(lr,.loop bz)::(d,.deferred (some []))::(b2,Obj.cells #[yv] 112 (0,0))::(C++(bw,Obj.cells cs.toArray 3 (0,0))::Mx),wb.heap.size≤p.1:=(nC hbc hn1)
   have hp:((bc,Obj.cells cs2.toArray 3 (0,0))::(qb0 b13 n.f fa fc)::(qb1 b7 bw n.path.length cap aa n.ah.length ac n.f fa fc n.ind)::(lr,.loop bz)::(d,.deferred (some []))::(b2,Obj.cells #[yv] 112 (0,0))::(C++(bw,Obj.cells cs.toArray 3 (0,0))::Mx)).Perm (C++((bc,Obj.cells cs2.toArray 3 (0,0))::(qb0 b13 n.f fa fc)::(qb1 b7 bw n.path.length cap aa n.ah.length ac n.f fa fc n.ind)::(lr,.loop bz)::(d,.deferred (some []))::(b2,Obj.cells #[yv] 112 (0,0))::(bw,Obj.cells cs.toArray 3 (0,0))::Mx)):=List.perm_append_comm_assoc [(bc,Obj.cells cs2.toArray 3 (0,0)),(qb0 b13 n.f fa fc),(qb1 b7 bw n.path.length cap aa n.ah.length ac n.f fa fc n.ind),(lr,.loop bz),(d,.deferred (some [])),(b2,Obj.cells #[yv] 112 (0,0))] C ((bw,Obj.cells cs.toArray 3 (0,0))::Mx)
   refine ⟨rfl,(Stab.of_mem (by simp) hnd (by subst hbz; exact hnew)),?_⟩
   refine forgetF (fun e=>e 7=yv∧e 10=.slice (some ⟨bc,0,none⟩) n.path.length cap2∧e 13=.slice (some ⟨b13,0,none⟩) 1 1) ⟨rfl,rfl,rfl⟩ (fun e he=>?_)
   obtain ⟨h7,h10,h13⟩:=he
   simp (disch:=omega) only[push_cast,qE,h7,h10,h13]
   have hokn:=hok n (List.mem_of_getElem? hkn)
   refine callV en_60 (cNw (S:=fun v M=>CopyO v M [n.f]) (fun w' hw'=>copiedO_walk w' w'.heap.size [n.f] (some ⟨b13,0,none⟩) 1 (Nat.le_refl _) (.cons (hw'.lt (.tail _ (.head _))) hfc hnm hfc2 (At.of_own hw' (.tail _ (.head _)) rfl) (hrf.toRd (Held.of_sy hw' (fun p hp=>.tail _ (.tail _ (.tail _ (.tail _ (.tail _ (.tail _ (qR _ (.tail _ (hMx0 p hp)))))))))))  (.nil _)) (by simp) (by omega) (by simp) (by simp only[okT,hokn,Bool.and_self])) (fun v M3 hM3 hMn3 hS=>?_))
   obtain ⟨a2,c2,rfl,hO⟩:=hS
   rcases (OwS_iff _ _ _ _).1 hO with ⟨z5,_⟩|⟨b5,cap5,cs5,xs5,K5,rfl,hM3e,_,_,_,_,_,htk,hK5⟩
   ·cases z5
   obtain ⟨K6,K7,a3,c3,cs7,hK67,hx7,hF3,hK7⟩:=hK5.cons_inv
   rw[OwK] at hK7
   obtain ⟨rfl,rfl⟩:=hK7
   rw[List.append_nil] at hK67 hx7
   have hK67':=hK67.symm
   subst hK67'
   subst hx7
   have hmb:(b5,Obj.cells cs5.toArray 37 (0,0))∈M3:=by rw[hM3e]; exact .head _
   have hM6:∀ p∈K6,wb.heap.size≤p.1:=fun p hp=>hM3 p (by rw[hM3e]; exact .tail _ hp)
   have hnew3:∀ p∈M3++((bc,Obj.cells cs2.toArray 3 (0,0))::(qb0 b13 n.f fa fc)::(qb1 b7 bw n.path.length cap aa n.ah.length ac n.f fa fc n.ind)::(lr,.loop bz)::(d,.deferred (some []))::(b2,Obj.cells #[yv] 112 (0,0))::(C++(bw,Obj.cells cs.toArray 3 (0,0))::Mx)),wb.heap.size≤p.1:=(nA hM3 hnew)
   have hst3:Stab wb (M3++((bc,Obj.cells cs2.toArray 3 (0,0))::(qb0 b13 n.f fa fc)::(qb1 b7 bw n.path.length cap aa n.ah.length ac n.f fa fc n.ind)::(lr,.loop bz)::(d,.deferred (some []))::(b2,Obj.cells #[yv] 112 (0,0))::(C++(bw,Obj.cells cs.toArray 3 (0,0))::Mx))) [(qb1 b7 bw n.path.length cap aa n.ah.length ac n.f fa fc n.ind),(b2,Obj.cells #[yv] 112 (0,0))]:=Stab.of_mem (by simp) hnd hnew3
   refine ⟨rfl,by subst hbz; exact hst3,?_⟩
   simp (disch:=omega) only[push_cast,qE,h7,h10,h13,List.length_singleton]
   refine ⟨by subst hbz; exact hst3,?_⟩
   refine lAg Shp.eq (List.mem_append_left _ hmb) (un htk) rfl ?_
   simp (disch:=omega) only[push_cast,qE,h7,h10,h13,Fld.cells]
   refine ⟨by subst hbz; exact hst3,?_⟩
   have hA:∀ C1:Own,(∀ p∈C1,wb.heap.size≤p.1)→∀ p∈(lr,.loop bz)::(d,.deferred (some []))::(b2,Obj.cells #[yv] 112 (0,0))::(C1++((qb0 b13 n.f fa fc)::(qb1 b7 bw n.path.length cap aa n.ah.length ac n.f fa fc n.ind)::(bw,Obj.cells cs.toArray 3 (0,0))::Mx)),wb.heap.size≤p.1:=fun C1 h1 p hp=>by
    simp only[qM,qP] at hp
    rcases hp with rfl|rfl|rfl|hp|rfl|rfl|rfl|hp
    ·exact hlr
    ·exact hd
    ·exact hb2
    ·exact h1 p hp
    ·exact hnew _ (.tail _ (.head _))
    ·exact hb7
    ·exact hbw
    ·exact hMx p hp
   have hN3:∀ p∈((bc,Obj.cells cs2.toArray 3 (0,0))::K6)++((qb0 b13 n.f fa fc)::(qb1 b7 bw n.path.length cap aa n.ah.length ac n.f fa fc n.ind)::(lr,.loop bz)::(d,.deferred (some []))::(b2,Obj.cells #[yv] 112 (0,0))::(bw,Obj.cells cs.toArray 3 (0,0))::Mx),wb.heap.size≤p.1:=fun p h=>by
    rcases List.mem_append.1 h with h|h
    ·rcases List.mem_cons.1 h with rfl|h
     ·exact hbc
     ·exact hM6 p h
    ·exact hnew p (hp.mem_iff.2 (qR C (.tail _ h)))
   have hq:∀ C1:Own,(C1++((qb0 b13 n.f fa fc)::(qb1 b7 bw n.path.length cap aa n.ah.length ac n.f fa fc n.ind)::(lr,.loop bz)::(d,.deferred (some []))::(b2,Obj.cells #[yv] 112 (0,0))::(bw,Obj.cells cs.toArray 3 (0,0))::Mx)).Perm ((lr,.loop bz)::(d,.deferred (some []))::(b2,Obj.cells #[yv] 112 (0,0))::(C1++((qb0 b13 n.f fa fc)::(qb1 b7 bw n.path.length cap aa n.ah.length ac n.f fa fc n.ind)::(bw,Obj.cells cs.toArray 3 (0,0))::Mx))):=fun C1=>(List.Perm.append_left C1 (List.perm_append_comm_assoc [(qb0 b13 n.f fa fc),(qb1 b7 bw n.path.length cap aa n.ah.length ac n.f fa fc n.ind)] [(lr,.loop bz),(d,.deferred (some [])),(b2,Obj.cells #[yv] 112 (0,0))] ((bw,Obj.cells cs.toArray 3 (0,0))::Mx))).trans (List.perm_append_comm_assoc C1 [(lr,.loop bz),(d,.deferred (some [])),(b2,Obj.cells #[yv] 112 (0,0))] ((qb0 b13 n.f fa fc)::(qb1 b7 bw n.path.length cap aa n.ah.length ac n.f fa fc n.ind)::(bw,Obj.cells cs.toArray 3 (0,0))::Mx))
   have hX:∀ p∈([(qb0 b13 n.f fa fc),(qb1 b7 bw n.path.length cap aa n.ah.length ac n.f fa fc n.ind)]:Own),wb.heap.size≤p.1:=fun p h=>by
    simp only[qM,qI,or_false] at h
    rcases h with rfl|rfl
    ·exact hb13
    ·exact hb7
   have hX2:∀ p∈([(qb0 b13 n.f fa fc),(qb1 b7 bw n.path.length cap aa n.ah.length ac n.f fa fc n.ind),(bw,Obj.cells cs.toArray 3 (0,0))]:Own),wb.heap.size≤p.1:=fun p h=>by
    simp only[qM,qI,or_false] at h
    rcases h with rfl|rfl|rfl
    ·exact hb13
    ·exact hb7
    ·exact hbw
   refine callV_two (fun L'=>∃ C1,I (k+1) C1∧L'=(lr,.loop bz)::(d,.deferred (some []))::(b2,Obj.cells #[yv] 112 (0,0))::(C1++((qb0 b13 n.f fa fc)::(qb1 b7 bw n.path.length cap aa n.ah.length ac n.f fa fc n.ind)::(bw,Obj.cells cs.toArray 3 (0,0))::Mx))) (fun L'=>∃ C1,J k C1∧L'=(lr,.loop bz)::(d,.deferred (some []))::(b2,Obj.cells #[yv] 112 (0,0))::(C1++((qb0 b13 n.f fa fc)::(qb1 b7 bw n.path.length cap aa n.ah.length ac n.f fa fc n.ind)::(bw,Obj.cells cs.toArray 3 (0,0))::Mx))) (by exact h7) (by simp (disch:=omega) only[push_cast,qE,h10]) hy.hen (fun w' hw'=>?_) ?_ ?_
   ·have hw2:Sy wb (M3++((bc,Obj.cells cs2.toArray 3 (0,0))::(qb0 b13 n.f fa fc)::(qb1 b7 bw n.path.length cap aa n.ah.length ac n.f fa fc n.ind)::(lr,.loop bz)::(d,.deferred (some []))::(b2,Obj.cells #[yv] 112 (0,0))::(C++(bw,Obj.cells cs.toArray 3 (0,0))::Mx))) w':=by subst hbz; exact hw'
    have hw6:Sy wb (K6++((bc,Obj.cells cs2.toArray 3 (0,0))::(qb0 b13 n.f fa fc)::(qb1 b7 bw n.path.length cap aa n.ah.length ac n.f fa fc n.ind)::(lr,.loop bz)::(d,.deferred (some []))::(b2,Obj.cells #[yv] 112 (0,0))::(C++(bw,Obj.cells cs.toArray 3 (0,0))::Mx))) w':=hw2.drop (by rw[hM3e]; exact (List.sublist_cons_self _ _).append_right _) (fun p hp=>by
     rcases List.mem_append.1 hp with hp|hp
     ·exact .inr (hM3 p hp)
     ·exact .inl (qR _ hp))
    refine (hy.call k n hkn C K6 ((qb0 b13 n.f fa fc)::(qb1 b7 bw n.path.length cap aa n.ah.length ac n.f fa fc n.ind)::(lr,.loop bz)::(d,.deferred (some []))::(b2,Obj.cells #[yv] 112 (0,0))::(bw,Obj.cells cs.toArray 3 (0,0))::Mx) bc cap2 cs2 a3 c3 hI hcc1 hcc2 (by omega) (un hcct) hF3 hpl hN3 (fun p hp=>.tail _ (.tail _ (.tail _ (.tail _ (.tail _ (.tail _ (hMx0 p (hM0 p hp)))))))) w' (hw6.perm (((List.Perm.append_left K6 hp).trans (List.perm_append_comm_assoc K6 C _)).trans (List.Perm.append_left C List.perm_middle)))).mono ?_
    rintro e5 w5 (⟨rfl,C1,h1,h2⟩|⟨rfl,C1,h1,h2⟩)
    ·exact .inl ⟨rfl,_,⟨C1,h1,rfl⟩,h2.perm (hq C1)⟩
    ·exact .inr ⟨rfl,_,⟨C1,h1,rfl⟩,h2.perm (hq C1)⟩
   ·rintro L' ⟨C1,hI1,rfl⟩
    have hs5:Stab wb ((lr,.loop bz)::(d,.deferred (some []))::(b2,Obj.cells #[yv] 112 (0,0))::(C1++((qb0 b13 n.f fa fc)::(qb1 b7 bw n.path.length cap aa n.ah.length ac n.f fa fc n.ind)::(bw,Obj.cells cs.toArray 3 (0,0))::Mx))) [(qb1 b7 bw n.path.length cap aa n.ah.length ac n.f fa fc n.ind),(b2,Obj.cells #[yv] 112 (0,0))]:=Stab.of_mem (by simp) hnd (hA C1 (hy.apart _ _ hI1))
    refine ⟨rfl,hs5,?_⟩
    simp (disch:=omega) only[push_cast,qE,h7]
    refine ⟨hs5,?_⟩
    rw[Vc]
    simp (disch:=omega) only[push_cast,qE,h7,Bool.not_true]
    subst hbz
    exact ⟨0,_,rfl,fun w4 hw4=>.inl ⟨rfl,_,⟨_::_::_::C1,⟨C1,hI1,rfl⟩,rfl⟩,hw4.mid (_::_::_::C1) _ hX⟩⟩
   ·rintro L' ⟨C1,hJ1,rfl⟩
    have hs5:Stab wb ((lr,.loop bz)::(d,.deferred (some []))::(b2,Obj.cells #[yv] 112 (0,0))::(C1++((qb0 b13 n.f fa fc)::(qb1 b7 bw n.path.length cap aa n.ah.length ac n.f fa fc n.ind)::(bw,Obj.cells cs.toArray 3 (0,0))::Mx))) [(qb1 b7 bw n.path.length cap aa n.ah.length ac n.f fa fc n.ind),(b2,Obj.cells #[yv] 112 (0,0))]:=Stab.of_mem (by simp) hnd (hA C1 (hy.apartJ _ _ hJ1))
    refine ⟨rfl,hs5,?_⟩
    simp (disch:=omega) only[push_cast,qE,h7]
    refine ⟨hs5,?_⟩
    rw[Vc]
    simp (disch:=omega) only[push_cast,qE,h7,Bool.not_false]
    subst hbz
    exact ⟨0,_,rfl,fun w4 hw4=>.inr ⟨rfl,_,⟨_::_::_::C1,⟨C1,_,hJ1,rfl,rfl,rfl⟩,rfl⟩,hw4.mid (_::_::_::C1) _ hX2⟩⟩

 ·rintro en w4 ⟨rfl,h⟩
  rcases h with ⟨C',⟨C1,hI1,rfl⟩,hw4⟩|⟨k,C',⟨C1,rec',hJ1,hst,hpe,rfl⟩,hw4⟩
  ·refine ⟨wb,_,0,rec,rfl,by rw[hrec]; simp,hw4,?_⟩
   have hp:rec.pending=none:=by rw[hrec]
   rw[hp]
   simp (disch:=omega) only[push_cast,qE,e2,e5]
   repeat' (first|((first|((first|refine gT rfl ?_ ?_|refine gF rfl ?_ ?_|refine cdD ?_ ?_)<;>intro h)|((first|refine gbT rfl ?_ ?_|refine gbF rfl ?_ ?_|refine cdB ?_ ?_)<;>intro h<;>(try subst h))|refine lOa Shp.eq rfl ?_|refine lAa Shp.eq rfl rfl ?_|refine newI (fun b hb hn=>?_)|refine sXb Siz.eq rfl rfl ?_)<;>simp (disch:=omega) only[push_cast,qE,e2,e5]))
   refine ⟨d,1,rfl,rfl,?_⟩
   simp (disch:=omega) only[push_cast,qE,e2,e5]
   exact fun w5 hw5=>.inl ⟨C1,hI1,hdrop C1 _ _ _ w5 hw5⟩
  ·refine ⟨wb,_,0,rec',rfl,by rw[hst]; simp,hw4,?_⟩
   rw[hpe]
   simp (disch:=omega) only[push_cast,qE,e2,e5]
   repeat' (first|((first|((first|refine gT rfl ?_ ?_|refine gF rfl ?_ ?_|refine cdD ?_ ?_)<;>intro h)|((first|refine gbT rfl ?_ ?_|refine gbF rfl ?_ ?_|refine cdB ?_ ?_)<;>intro h<;>(try subst h))|refine lOa Shp.eq rfl ?_|refine lAa Shp.eq rfl rfl ?_|refine newI (fun b hb hn=>?_)|refine sXb Siz.eq rfl rfl ?_)<;>simp (disch:=omega) only[push_cast,qE,e2,e5]))
   refine ⟨d,1,rfl,rfl,?_⟩
   simp (disch:=omega) only[push_cast,qE,e2,e5]
   exact fun w5 hw5=>.inr ⟨k,C1,hJ1,hdrop C1 _ _ _ w5 hw5⟩
end Go.Proofs.YtdmdgkpjjpijdaaGreatDoor
