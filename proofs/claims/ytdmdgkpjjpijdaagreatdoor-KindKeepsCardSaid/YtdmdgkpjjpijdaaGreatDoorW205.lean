/- YtdmdgkpjjpijdaaGreatDoor: walks, part 205: fields that are read are their owner's; so is each way to what is wrong. -/
import Derived.Test.YtdmdgkpjjpijdaaGreatDoorW204
namespace Go.Proofs.YtdmdgkpjjpijdaaGreatDoor
open Go Go.K
open Nat renaming reduceEqDiff → qE
open List renaming mem_append_right → qR
set_option maxRecDepth 100000
set_option linter.unusedVariables false
set_option linter.unusedSimpArgs false
set_option maxHeartbeats 8000000
theorem wt_perm {l m:Own} (h:l.Perm m) (f:Nat×Obj→Nat):wt f l=wt f m:=by
 induction h with
 | nil=>rfl
 | cons x _ ih=>rw[wt_cons,wt_cons,ih]
 | swap x y l=>rw[wt_cons,wt_cons,wt_cons,wt_cons]; omega
 | trans _ _ ih1 ih2=>rw[ih1,ih2]
theorem parseF_few (t:List UInt8):(parseF t).f.sub.length≤1048576∧wideL 1048576 (parseF t).f.sub=true:=by
 have hno:noF.sub.length≤1048576∧wideL 1048576 noF.sub=true:=by
  refine ⟨by simp[noF,Fld.sub],?_⟩
  show wideL 1048576 []=true
  rw[wideL]
 unfold parseF
 split
 ·exact hno
 split
 ·exact hno
 rename_i x q _
 split
 ·rename_i h
  have h1:=(small_may (l:=[x.1]) (nt:=[]) (by unfold mayP; exact decide_eq_true h)).1
  simp only[okT,Bool.and_eq_true] at h1
  have h2:=(okS_iff x.1).1 h1.1
  have h3:x.1.sub.length≤1048576:=by omega
  exact ⟨h3,wideL_mono (by omega) _ (okT_wide _ h2.2)⟩
 ·exact hno
abbrev oFd (b:Nat) (f:Fld) (a:Option Addr) (c:Nat):Nat×Obj:=(b,Obj.cells (Fld.cells f a c).toArray 37 (0,0))
abbrev oFt (b:Nat) (x:Int) (v:Value) (z:Int):Nat×Obj:=(b,Obj.cells #[i64 x,v,i64 z] 51 (0,0))
structure KfL (w0:World) (l:List Fld) (a:Option Addr) (c:Nat) (i:Nat) (wb:World) (e:Env) (ds:List Deferred) (L:Own):Prop where
 hw:wb=w0
 hds:ds=[]
 hn:∀ p∈L,w0.heap.size≤p.1
 hi:i≤l.length
 h51:e 51=.slice a l.length c
 h52:e 52=i64 l.length
 h53:e 53=i64 i
def PathO (M:Own) (pa:Option Addr) (pc:Nat) (l:List Nat):Prop:=pa=none∧pc=0∧l=[]∨∃ b cap cs,pa=some ⟨b,if cap=1 then 0 else 1,none⟩∧pc=cap - 1∧(b,.cells cs 3 (0,0))∈M∧RowIn [(b,.cells cs 3 (0,0))] 3 (.slice (some ⟨b,0,none⟩) l.length cap) l.length (ints l)
theorem PathO.le {M:Own} {pa:Option Addr} {pc:Nat} {l:List Nat} (h:PathO M pa pc l):l.tail.length≤9223372036854775807:=by
 rcases h with ⟨_,_,h1⟩|⟨_,cap,_,_,_,_,hrow⟩
 ·rw[h1]; simp
 ·obtain ⟨_,⟨_,h2⟩|⟨_,cap,_,h1,_,h3,h4,_⟩⟩:=hrow
  ·rw[List.length_tail]; omega
  ·simp only[maxLen] at h4; rw[List.length_tail]; omega
structure KfO (r:Int×List Nat×Int) (x y:Nat) (pa pa3:Option Addr) (pc pc3:Nat) (A1 A3 A4 A5:Own) (D:Nat→Bool) (e:Env):Prop where
 f1:D 1=false→A1=[]
 t1:D 1=true→e 61=.agg #[i64 r.1,.slice pa r.2.1.tail.length pc,i64 r.2.2]∧PathO A1 pa pc r.2.1
 f3:D 3=false→A3=[]
 t3:D 3=true→e 63=.agg #[i64 r.1,.slice pa3 r.2.1.tail.length pc3,i64 r.2.2]∧PathO A3 pa3 pc3 r.2.1
 f4:D 4=false→A4=[]
 t4:D 4=true→e 16=.pointer (some ⟨x,0,none⟩)∧(D 6=false→A4=[oFt x 0 (.slice none 0 0) 0])∧(D 6=true→A4=[oFt x r.1 (.slice pa r.2.1.tail.length pc) r.2.2])
 f5:D 5=false→A5=[]
 t5:D 5=true→e 17=.pointer (some ⟨y,0,none⟩)∧(D 7=false→A5=[oFt y 0 (.slice none 0 0) 0])∧(D 7=true→A5=[oFt y r.1 (.slice pa3 r.2.1.tail.length pc3) r.2.2])
structure KfN (w0:World) (Lx:Own) (v51 v52 v53 fv:Value) (b15:Nat) (r:Int×List Nat×Int) (D:Nat→Bool) (e:Env) (ds:List Deferred) (L:Own):Prop where
 hds:ds=[]
 h51:e 51=v51
 h52:e 52=v52
 h53:e 53=v53
 h15:e 15=.pointer (some ⟨b15,0,none⟩)
 h60:e 60=fv
 h62:e 62=fv
 m3:D 3=true→D 1=true
 m6:D 6=true→D 1=true∧D 3=true∧D 4=true∧D 5=true
 m7:D 7=true→D 6=true
 o:∃ (x y:Nat) (pa pa3:Option Addr) (pc pc3:Nat) (A1 A3 A4 A5:Own),KfO r x y pa pa3 pc pc3 A1 A3 A4 A5 D e∧L=A4++(A5++(A1++(A3++Lx)))∧∀ p∈L,w0.heap.size≤p.1
structure KfP (w0:World) (v51 v52 v53:Value) (b15 x y:Nat) (r1 r3:Int) (v:Value) (n:Nat) (MR:Own) (i:Nat) (wb:World) (e:Env) (ds:List Deferred) (L:Own):Prop where
 hw:wb=w0
 hds:ds=[]
 o:∃ R,L=R++(oFt x r1 v r3::MR)∧RowP w0 3 1 R v n
 hi:i≤n
 h51:e 51=v51
 h52:e 52=v52
 h53:e 53=v53
 h15:e 15=.pointer (some ⟨b15,0,none⟩)
 h16:e 16=.pointer (some ⟨x,0,none⟩)
 h17:e 17=.pointer (some ⟨y,0,none⟩)
 h66:e 66=i64 n
 h67:e 67=i64 i
structure KfQ (w0:World) (v51 v52 v53:Value) (b15 x y:Nat) (r1 r3:Int) (n:Nat) (MR:Own) (k:Nat) (wb:World) (e:Env) (ds:List Deferred) (L:Own):Prop where
 hw:wb=w0
 hds:ds=[]
 o:∃ R v,L=R++(oFt x r1 v r3::MR)∧RowP w0 3 1 R v (n+k)
 hk:k≤20
 h51:e 51=v51
 h52:e 52=v52
 h53:e 53=v53
 h15:e 15=.pointer (some ⟨b15,0,none⟩)
 h16:e 16=.pointer (some ⟨x,0,none⟩)
 h17:e 17=.pointer (some ⟨y,0,none⟩)
 h19:e 19=i64 k
theorem keepsFields_walk (w:World) (hs:SaysAt w) (hl:LibAt w) (lo:Nat) (hlo:lo≤w.heap.size) (t:List UInt8) (ht:t.length≤9223372036854775807) (a:Option Addr) (l:List Fld) (c:Nat) (na:Option Addr) (nt:List NoteT) (nc:Nat) (hsc:SchAt w lo a l c na nt nc) :
 Calls Tryz.prog 13 #[str t,schV a l c na nt nc] w (Rets w (Is (.bool true))):=by
 refine enterB (args:=[str t,schV a l c na nt nc]) Tryz.func13 rfl Tryz.ntmps13 (congrArg Array.toList Tryz.results13) (by kernel_rfl) (by simp) (Sy.refl w) ?_
 simp (disch:=omega) only[push_cast,qE,schV]
 refine newI (fun b3 hb3 hnb3=>?_)
 refine sp ?_
 obtain ⟨L0,hL0⟩:∃ L:Own,L=[oSm b3 a l.length c na nt.length nc]:=⟨_,rfl⟩
 have g0:∀ p∈L0,w.heap.size≤p.1:=fun p hp=>by rw[hL0] at hp; rw[List.mem_singleton.1 hp]; exact hb3
 refine callV en_9 (callX_weak (L':=L0) (fun w hw=>by rw[hL0]; exact hw) (cNw (fun w' hw'=>parseFieldP_walk w' (hs.mono hw' g0) (hl.mono hw' g0) t ht) (fun v M1 hM1 hn1 hS1=>?_)))
 (refine xe3 (hS1) (fun a1 c1 K1 hz=>?_); have ez:=hz.1; subst ez; have hO1:=hz.2.1; have hK1:=hz.2.2; clear hz)
 simp (maxSteps:=1000000) (disch:=omega) only[push_cast,qE,Fld.cells]
 refine newI (fun b5 hb5 hnb5=>?_)
 simp (maxSteps:=1000000) (disch:=omega) only[push_cast,qE,Fld.cells]
 refine sXa 0 rfl Siz.eq rfl rfl ?_
 simp (maxSteps:=1000000) (disch:=omega) only[push_cast,qE,Fld.cells]
 obtain ⟨L1,hL1⟩:∃ L:Own,L=oFd b5 (parseF t).f a1 c1::(M1++L0):=⟨_,rfl⟩
 have g1:∀ p∈L1,w.heap.size≤p.1:=(by rw[hL1]; exact (nC hb5 (nA hM1 g0)))
 refine callV en_9 (callX_weak (L':=L1) (fun w hw=>by rw[hL1]; exact hw) (cNw (fun w' hw'=>parseFieldP_walk w' (hs.mono hw' g1) (hl.mono hw' g1) t ht) (fun v M2 hM2 hn2 hS2=>?_)))
 (refine xe3 (hS2) (fun a2 c2 K2 hz=>?_); have ez:=hz.1; subst ez; have hO2:=hz.2.1; have hK2:=hz.2.2; clear hz)
 simp (maxSteps:=1000000) (disch:=omega) only[push_cast,qE,Fld.cells]
 refine newI (fun b8 hb8 hnb8=>?_)
 simp (maxSteps:=1000000) (disch:=omega) only[push_cast,qE,Fld.cells]
 refine sXa 0 rfl Siz.eq rfl rfl ?_
 simp (maxSteps:=1000000) (disch:=omega) only[push_cast,qE,Fld.cells]
 obtain ⟨L2,hL2⟩:∃ L:Own,L=oFd b8 (parseF t).f a2 c2::(M2++L1):=⟨_,rfl⟩
 have g2:∀ p∈L2,w.heap.size≤p.1:=(by rw[hL2]; exact (nC hb8 (nA hM2 g1)))
 refine callV en_10 (callX_weak (L':=L2) (fun w hw=>by rw[hL2]; exact hw) (cNw (fun w' hw'=>parseFieldR_walk w' t ht) (fun v M3 hM3 hn3 hS3=>?_)))
 (refine xe3 (hS3) (fun a3 c3 K3 hz=>?_); have ez:=hz.1; subst ez; have hO3:=hz.2.1; have hK3:=hz.2.2; clear hz)
 simp (maxSteps:=1000000) (disch:=omega) only[push_cast,qE,Fld.cells]
 refine newI (fun b11 hb11 hnb11=>?_)
 simp (maxSteps:=1000000) (disch:=omega) only[push_cast,qE,Fld.cells]
 refine sXa 0 rfl Siz.eq rfl rfl ?_
 simp (maxSteps:=1000000) (disch:=omega) only[push_cast,qE,Fld.cells]
 obtain ⟨L3,hL3⟩:∃ L:Own,L=oFd b11 (parseF t).f a3 c3::(M3++L2):=⟨_,rfl⟩
 have g3:∀ p∈L3,w.heap.size≤p.1:=(by rw[hL3]; exact (nC hb11 (nA hM3 g2)))
 obtain ⟨R1,hp1⟩:=hK1.exists_perm_append
 obtain ⟨RR,hRR⟩:∃ RR:Own,RR=oFd b11 (parseF t).f a3 c3::(M3++(oFd b8 (parseF t).f a2 c2::(M2++(oFd b5 (parseF t).f a1 c1::(R1++L0))))):=⟨_,rfl⟩
 have hpm:L3.Perm (K1++RR):=by
  rw[hL3,hL2,hL1,hRR]
  exact permC fun f=>by simp only[wt_append,wt_cons,wt_nil,wt_perm hp1]; omega
 have gR:∀ p∈RR,w.heap.size≤p.1:=fun p hp=>g3 p (hpm.mem_iff.2 (qR _ hp))
 have hR3:∀ p∈RR,p∈L3:=fun p hp=>hpm.mem_iff.2 (qR _ hp)
 have m5:oFd b5 (parseF t).f a1 c1∈RR:=by rw[hRR]; simp
 have m8:oFd b8 (parseF t).f a2 c2∈RR:=by rw[hRR]; simp
 have m11:oFd b11 (parseF t).f a3 c3∈RR:=by rw[hRR]; simp
 have m3:oSm b3 a l.length c na nt.length nc∈RR:=by rw[hRR,hL0]; simp
 have s8:∀ p∈K2,p∈RR:=fun p hp=>by rw[hRR]; simp[hK2.subset hp]
 have s11:∀ p∈K3,p∈RR:=fun p hp=>by rw[hRR]; simp[hK3.subset hp]
 have gAll:∀ A:Own,(∀ p∈A,w.heap.size≤p.1)→∀ p∈A++RR,w.heap.size≤p.1:=fun A h1 p hp=>by
  rcases List.mem_append.1 hp with hp|hp
  ·exact h1 p hp
  ·exact gR p hp
 obtain ⟨few2,few3⟩:=parseF_few t
 refine lOn Shp.eq (by have h:=hR3 _ m5; rw[hL3] at h; exact h) rfl ?_
 simp (maxSteps:=1000000) (disch:=omega) only[push_cast,qE,Fld.cells]
 refine callV en_27 (callX_base (fun w' hw'=>spoil_walk w w' (parseF t).f.sub K1 RR a1 c1 [115,112,111,105,108,116] (by simp) hO1.toS ((show Sy w L3 w' by rw[hL3]; exact hw').perm hpm) (gAll K1 (fun p hp=>g3 p (hpm.mem_iff.2 (List.mem_append_left _ hp))))) ?_)
 rintro e' w' ⟨rfl,l2,A6,q1,q2,q3,q6,q4,gA6⟩
 refine ⟨_,A6++RR,rfl,q4,?_⟩
 clear q4 w'
 simp (maxSteps:=1000000) (disch:=omega) only[push_cast,qE,Fld.cells]
 refine lOn Shp.eq (qR _ m5) rfl ?_
 simp (maxSteps:=1000000) (disch:=omega) only[push_cast,qE,Fld.cells]
 have hG:∀ w',Sy w (A6++RR) w'→Calls Tryz.prog 28 #[.slice a1 (parseF t).f.sub.length c1,str [103,114,111,119,110]] w' (fun e w'=>e=.returned (.tuple #[])∧∃ K':Own,OwS l2 K' a1 c1∧Sy w (K'++RR) w'∧∀ p∈K',w.heap.size≤p.1):=fun w' hw'=>by
  have h:=growF_walk w w' l2 A6 RR a1 c1 [103,114,111,119,110] (by simp) q1 (by omega) (q6 _ few3) hw' (gAll A6 gA6)
  rw[q2] at h
  exact h
 refine callV en_28 (callX_base hG ?_)
 rintro e' w' ⟨rfl,A7,z1,z2,gA7⟩
 refine ⟨_,A7++RR,rfl,z2,?_⟩
 clear z2 w' hG
 simp (maxSteps:=1000000) (disch:=omega) only[push_cast,qE,Fld.cells]
 refine lAg Shp.eq (qR _ m8) rfl rfl ?_
 simp (maxSteps:=1000000) (disch:=omega) only[push_cast,qE,Fld.cells]
 refine lAg Shp.eq (qR _ m11) rfl rfl ?_
 simp (maxSteps:=1000000) (disch:=omega) only[push_cast,qE,Fld.cells]
 refine callV en_11 (cIs (fun w' hw'=>eqField_walk w' w'.heap.size w'.heap.size (parseF t).f a2 a3 c2 c3 (Nat.le_refl _) (Nat.le_refl _) (hO2.rd hw' (fun p hp=>qR _ (s8 p hp))) (hO3.rd hw' (fun p hp=>qR _ (s11 p hp))) (Nat.le_trans hO2.le.1 hO2.le.2)) ?_)
 simp (maxSteps:=1000000) (disch:=omega) only[push_cast,qE,Bool.not_true]
 rw[Vc]
 simp (maxSteps:=1000000) (disch:=omega) only[push_cast,qE]
 refine lOn Shp.eq (qR _ m3) rfl ?_
 simp (maxSteps:=1000000) (disch:=omega) only[push_cast,qE]
 have hl63:=Nat.le_trans hsc.hc hsc.hc2
 rw[Vb]
 simp (maxSteps:=1000000) (disch:=omega) only[push_cast,qE]
 refine loopW (G:=Nat) (KfL w l a c) (fun i=>l.length - i) 0 (A7++RR) (fun w hw=>hw) (by kernel_rfl) ⟨rfl,rfl,gAll A7 gA7,by omega,rfl,rfl,rfl⟩ ?_
 clear hpm hR3 m5 m8 m11 m3 s8 s11 hRR hL0 hL1 hL2 hL3 hO1 hO2 hO3 hK1 hK2 hK3 hp1 q1 z1 hS1 hS2 hS3 gAll
 rintro i wb e ds L ⟨rfl,rfl,hn,hi,h51,h52,h53⟩
 simp (disch:=omega) only[push_cast,qE,h51,h52,h53]
 rw[Vc]
 simp (disch:=omega) only[push_cast,qE,h51,h52,h53]
 refine cdD (fun hlt=>?_) (fun hge=>?_)
 rotate_left
 ·simp (disch:=omega) only[push_cast,qE,h51,h52,h53]
  exact finIs hn rfl
 obtain ⟨f,hf⟩:∃ f,l[i]?=some f:=⟨_,List.getElem?_eq_getElem (by omega)⟩
 obtain ⟨b,off,rfl,hb⟩:∃ b off,a=some ⟨b,off,none⟩∧b < lo:=by
  obtain ⟨f0,l0,rfl⟩:∃ f l',l=f::l':=List.exists_cons_of_ne_nil (by rintro rfl; simp at hf)
  exact hsc.hr.some_of
 obtain ⟨fa,fc,x1,x2,x3,x4,x5,x6⟩:=hsc.hr.get i hf
 simp (disch:=omega) only[push_cast,qE,h51,h52,h53]
 rw[Vb]
 simp (disch:=omega) only[push_cast,qE,h51,h52,h53]
 refine ldAggF Shp.eq x2 rfl (out_of (fun p hp=>Nat.lt_of_lt_of_le (Nat.lt_of_lt_of_le x1 hlo) (hn p hp))) ?_
 simp (disch:=omega) only[push_cast,qE,h51,h52,h53,Fld.cells]
 refine newI (fun b15 hb15 hnb15=>?_)
 simp (disch:=omega) only[push_cast,qE,h51,h52,h53,Fld.cells]
 refine sXa 0 rfl Siz.eq rfl rfl ?_
 simp (disch:=omega) only[push_cast,qE,h51,h52,h53,Fld.cells]
 rw[Vc]
 simp (disch:=omega) only[push_cast,qE,h51,h52,h53,Fld.cells]
 obtain ⟨Lx,hLx⟩:∃ Lx:Own,Lx=oFd b15 f fa fc::L:=⟨_,rfl⟩
 have gx:∀ p∈Lx,wb.heap.size≤p.1:=(by rw[hLx]; exact (nC hb15 hn))
 refine cdD (fun h40=>?_) (fun h40=>?_)
 ·simp (disch:=omega) only[push_cast,qE,h51,h52,h53]
  exact finIs (L:=_::L) (by rw[hLx] at gx; exact gx) rfl
 simp (disch:=omega) only[push_cast,qE,h51,h52,h53]
 obtain ⟨r,hr⟩:∃ r,r=checkP [f] []:=⟨_,rfl⟩
 have hC:∀ w' L',Sy wb L' w'→(∀ p∈L',wb.heap.size≤p.1)→Calls Tryz.prog 49 #[.agg #[str f.nm,.bool f.nl,i64 f.k,i64 f.wd,i64 f.id,i64 f.ix,.slice fa f.sub.length fc]] w' (RetsN w' (fun v M=>∃ pa pc,v=.agg #[i64 r.1,.slice pa r.2.1.tail.length pc,i64 r.2.2]∧PathO M pa pc r.2.1)):=fun w' L' hw' hL'=>by
  rw[hr]
  exact checkField_walk w' (hs.mono hw' hL') lo (Nat.le_trans hlo hw'.size) f fa fc (x6.sy hlo hw' (fun p hp=>Nat.le_trans hlo (hL' p hp))) x3 x5 x4
 refine SemT_weak (L':=Lx) (fun w hw=>by rw[hLx]; exact hw) ?_
 have hfx:oFd b15 f fa fc∈Lx:=by rw[hLx]; exact .head _
 have hsx:∀ L':Own,(∀ p∈Lx,p∈L')→(∀ p∈L',wb.heap.size≤p.1)→Stab wb L' [oFd b15 f fa fc]:=fun L' h1 h2=>Stab.of_mem (fun p hp=>by rw[List.mem_singleton.1 hp]; exact h1 _ hfx) (by simp) h2
 refine freeIT [0,2] [1,3,4,5,6,7] [(1,[]),(3,[1]),(4,[]),(5,[]),(6,[1,3,4,5]),(7,[6])] [oFd b15 f fa fc] (KfN wb Lx (.slice (some ⟨b,off,none⟩) l.length c) (i64 l.length) (i64 i) (.agg #[str f.nm,.bool f.nl,i64 f.k,i64 f.wd,i64 f.id,i64 f.ix,.slice fa f.sub.length fc]) b15 r) (by kernel_rfl) mixed (by kernel_rfl) (by kernel_rfl) (fun D e ds L hI=>?_) ?_ ?_ (hsx _ (fun p hp=>hp) gx) ?_
 ·obtain ⟨rfl,h51,h52,h53,h15,h60,h62,m3,m6,m7,x,y,pa,pa3,pc,pc3,A1,A3,A4,A5,hO,rfl,hN⟩:=hI
  exact hsx _ (fun p hp=>by simp[hp]) hN
 ·intro p hp D e ds L hD hdep hI
  obtain ⟨rfl,h51,h52,h53,h15,h60,h62,m3,m6,m7,x,y,pa,pa3,pc,pc3,A1,A3,A4,A5,⟨f1,t1,f3,t3,f4,t4,f5,t5⟩,rfl,hN⟩:=hI
  simp only[List.mem_cons,List.mem_nil_iff,or_false] at hp
  rcases hp with rfl|rfl|rfl|rfl|rfl|rfl
  all_goals simp only[List.mem_cons,List.mem_nil_iff,or_false,forall_eq_or_imp,forall_eq,false_implies,implies_true] at hD hdep
  ·have n3:D 3=false:=bf m3 hD
   have n6:D 6=false:=bf (fun h=>(m6 h).1) hD
   have n7:D 7=false:=bf m7 n6
   obtain rfl:=f1 hD
   obtain rfl:=f3 n3
   simp (disch:=omega) only[push_cast,qE,h51,h52,h53,h15,h60,h62]
   refine callV en_49 (cNw (fun w' hw'=>hC w' _ hw' hN) (fun v M hM hMn hS=>?_))
   (refine xe2 (hS) (fun pa1 pc1 hz=>?_); have ez:=hz.1; subst ez; have hP:=hz.2; clear hz)
   simp (disch:=omega) only[push_cast,qE,h51,h52,h53,h15,h60,h62]
   have hpm:(M++(A4++(A5++([]++([]++Lx))))).Perm (A4++(A5++(M++([]++Lx)))):=permC fun f=>by simp only[wt_append,wt_nil]; omega
   exact ⟨_,fun w hw=>hw.perm hpm,rfl,us h51,us h52,us h53,us h15,us h60,us h62,fun h=>by simp[n3] at h,fun h=>by simp[n6] at h,fun h=>by simp[n7] at h,x,y,pa1,pa3,pc1,pc3,M,[],A4,A5,⟨fun h=>by simp at h,fun _=>⟨by simp[upd],hP⟩,fun _=>rfl,fun h=>by simp[n3] at h,un f4,by simpa [upd,n6] using t4,un f5,us t5⟩,rfl,fun p hp=>by
    rcases List.mem_append.1 (hpm.mem_iff.2 hp) with hp|hp
    ·exact hM p hp
    ·exact hN p hp⟩
  ·have y1:=hdep
   have n6:D 6=false:=bf (fun h=>(m6 h).2.1) hD
   have n7:D 7=false:=bf m7 n6
   obtain rfl:=f3 hD
   simp (disch:=omega) only[push_cast,qE,h51,h52,h53,h15,h60,h62]
   refine callV en_49 (cNw (fun w' hw'=>hC w' _ hw' hN) (fun v M hM hMn hS=>?_))
   (refine xe2 (hS) (fun pa1 pc1 hz=>?_); have ez:=hz.1; subst ez; have hP:=hz.2; clear hz)
   simp (disch:=omega) only[push_cast,qE,h51,h52,h53,h15,h60,h62]
   have hpm:(M++(A4++(A5++(A1++([]++Lx))))).Perm (A4++(A5++(A1++(M++Lx)))):=permC fun f=>by simp only[wt_append,wt_nil]; omega
   exact ⟨_,fun w hw=>hw.perm hpm,rfl,us h51,us h52,us h53,us h15,us h60,us h62,fun _=>by simp[y1],fun h=>by simp[n6] at h,fun h=>by simp[n7] at h,x,y,pa,pa1,pc,pc1,A1,M,A4,A5,⟨un f1,us t1,fun h=>by simp at h,fun _=>⟨by simp[upd],hP⟩,un f4,by simpa [upd,n6] using t4,un f5,by simpa [upd,n7] using t5⟩,rfl,fun p hp=>by
    rcases List.mem_append.1 (hpm.mem_iff.2 hp) with hp|hp
    ·exact hM p hp
    ·exact hN p hp⟩
  ·have n6:D 6=false:=bf (fun h=>(m6 h).2.2.1) hD
   have n7:D 7=false:=bf m7 n6
   obtain rfl:=f4 hD
   simp (disch:=omega) only[push_cast,qE,h51,h52,h53,h15,h60,h62]
   refine newI (fun bn hbn hnn=>?_)
   simp (disch:=omega) only[push_cast,qE,h51,h52,h53,h15,h60,h62]
   exact ⟨oFt bn 0 (.slice none 0 0) 0::(A5++(A1++(A3++Lx))),fun w hw=>hw,rfl,us h51,us h52,us h53,us h15,us h60,us h62,un m3,fun h=>by simp[n6] at h,fun h=>by simp[n7] at h,bn,y,pa,pa3,pc,pc3,A1,A3,[oFt bn 0 (.slice none 0 0) 0],A5,⟨un f1,us t1,un f3,us t3,fun h=>by simp at h,fun _=>⟨by simp[upd],fun _=>rfl,fun h=>by simp[n6] at h⟩,un f5,us t5⟩,rfl,(nC hbn hN)⟩
  ·have n6:D 6=false:=bf (fun h=>(m6 h).2.2.2) hD
   have n7:D 7=false:=bf m7 n6
   obtain rfl:=f5 hD
   simp (disch:=omega) only[push_cast,qE,h51,h52,h53,h15,h60,h62]
   refine newI (fun bn hbn hnn=>?_)
   simp (disch:=omega) only[push_cast,qE,h51,h52,h53,h15,h60,h62]
   have hpm:(oFt bn 0 (.slice none 0 0) 0::(A4++([]++(A1++(A3++Lx))))).Perm (A4++([oFt bn 0 (.slice none 0 0) 0]++(A1++(A3++Lx)))):=pC
   exact ⟨_,fun w hw=>hw.perm hpm,rfl,us h51,us h52,us h53,us h15,us h60,us h62,un m3,fun h=>by simp[n6] at h,fun h=>by simp[n7] at h,x,bn,pa,pa3,pc,pc3,A1,A3,A4,[oFt bn 0 (.slice none 0 0) 0],⟨un f1,us t1,un f3,us t3,un f4,us t4,fun h=>by simp at h,fun _=>⟨by simp[upd],fun _=>rfl,fun h=>by simp[n7] at h⟩⟩,rfl,fun p hp=>by
    rcases List.mem_cons.1 (hpm.mem_iff.2 hp) with rfl|hp
    ·exact hbn
    ·exact hN p hp⟩
  ·obtain ⟨y1,y3,y4,y5⟩:=hdep
   have n7:D 7=false:=bf m7 hD
   obtain ⟨e16,c4,_⟩:=t4 y4
   obtain ⟨e61,hP1⟩:=t1 y1
   obtain rfl:=c4 hD
   simp (disch:=omega) only[push_cast,qE,e16,e61,h51,h52,h53,h15,h60,h62]
   refine sXa 0 rfl Siz.eq rfl rfl ?_
   simp (disch:=omega) only[push_cast,qE,e16,e61,h51,h52,h53,h15,h60,h62]
   exact ⟨oFt x r.1 (.slice pa r.2.1.tail.length pc) r.2.2::(A5++(A1++(A3++Lx))),fun w hw=>hw,rfl,us h51,us h52,us h53,us h15,us h60,us h62,un m3,fun _=>by simp[y1,y3,y4,y5],fun h=>by simp[n7] at h,x,y,pa,pa3,pc,pc3,A1,A3,[oFt x r.1 (.slice pa r.2.1.tail.length pc) r.2.2],A5,⟨un f1,us t1,un f3,us t3,fun h=>by simp[y4] at h,fun _=>⟨us e16,fun h=>by simp at h,fun _=>rfl⟩,un f5,us t5⟩,rfl,(nC (hN (oFt x 0 (.slice none 0 0) 0) (.head _)) (fun p hp=>hN p (.tail _ hp)))⟩
  ·have y6:=hdep
   obtain ⟨y1,y3,y4,y5⟩:=m6 y6
   obtain ⟨e16,_,c4⟩:=t4 y4
   obtain ⟨e17,c5,_⟩:=t5 y5
   obtain ⟨e63,hP3⟩:=t3 y3
   have hA4:=c4 y6
   obtain rfl:=c5 hD
   subst hA4
   simp (disch:=omega) only[push_cast,qE,e17,e63,h51,h52,h53,h15,h60,h62]
   refine sXa 1 rfl Siz.eq rfl rfl ?_
   simp (disch:=omega) only[push_cast,qE,e17,e63,h51,h52,h53,h15,h60,h62]
   exact ⟨oFt x r.1 (.slice pa r.2.1.tail.length pc) r.2.2::oFt y r.1 (.slice pa3 r.2.1.tail.length pc3) r.2.2::(A1++(A3++Lx)),fun w hw=>hw,rfl,us h51,us h52,us h53,us h15,us h60,us h62,un m3,un m6,fun _=>by simp[y6],x,y,pa,pa3,pc,pc3,A1,A3,[oFt x r.1 (.slice pa r.2.1.tail.length pc) r.2.2],[oFt y r.1 (.slice pa3 r.2.1.tail.length pc3) r.2.2],⟨un f1,us t1,un f3,us t3,fun h=>by simp[y4] at h,fun _=>⟨us e16,fun h=>by simp[y6] at h,fun _=>rfl⟩,fun h=>by simp[y5] at h,fun _=>⟨us e17,fun h=>by simp at h,fun _=>rfl⟩⟩,rfl,(nC (hN (oFt x r.1 (.slice pa r.2.1.tail.length pc) r.2.2) (.head _)) (nC (hN (oFt y 0 (.slice none 0 0) 0) (.tail _ (.head _))) (fun p hp=>hN p (.tail _ (.tail _ hp)))))⟩
 ·intro D e ds L hD hI
  obtain ⟨rfl,h51,h52,h53,h15,h60,h62,m3,m6,m7,x,y,pa,pa3,pc,pc3,A1,A3,A4,A5,⟨f1,t1,f3,t3,f4,t4,f5,t5⟩,rfl,hN⟩:=hI
  obtain ⟨e16,_,c4⟩:=t4 (hD 4 (by simp))
  obtain ⟨e17,_,c5⟩:=t5 (hD 5 (by simp))
  obtain ⟨_,hP1⟩:=t1 (hD 1 (by simp))
  obtain ⟨_,hP3⟩:=t3 (hD 3 (by simp))
  obtain rfl:=c4 (hD 6 (by simp))
  obtain rfl:=c5 (hD 7 (by simp))
  clear f1 t1 f3 t3 f4 t4 f5 t5 c4 c5 h60 h62 m3 m6 m7
  simp (disch:=omega) only[push_cast,qE,e16,e17,h15,h51,h52,h53]
  obtain ⟨R0,M0,hp0,hR0⟩:=RowP.tail (wb:=wb) (M:=A1) (fun p hp=>hN p (by simp[hp])) hP1
  have hn65:r.2.1.tail.length≤65:=by
   have h1:=way_len f
   rw[← hr] at h1
   rw[List.length_tail]; omega
  have hlt3:=hP3.le
  obtain ⟨n,hn0⟩:∃ n,n=r.2.1.tail.length:=⟨_,rfl⟩
  rw[← hn0] at hR0 hn65
  have hpath3:∀ w' L',Sy wb L' w'→(∀ p∈A3,p∈L')→IntsAt w' pa3 (toInts r.2.1.tail):=fun w' L' hw' h1=>intsAt_tail hw' h1 hP3
  obtain ⟨MR,hMR⟩:∃ MR:Own,MR=oFt y r.1 (.slice pa3 r.2.1.tail.length pc3) r.2.2::(M0++(A3++Lx)):=⟨_,rfl⟩
  have hpm:([oFt x r.1 (.slice pa r.2.1.tail.length pc) r.2.2]++([oFt y r.1 (.slice pa3 r.2.1.tail.length pc3) r.2.2]++(A1++(A3++Lx)))).Perm (R0++(oFt x r.1 (.slice pa n pc) r.2.2::MR)):=by
   rw[hMR,hn0]
   exact permC fun f=>by simp only[wt_append,wt_cons,wt_nil,wt_perm hp0]; omega
  have gM:∀ p∈MR,wb.heap.size≤p.1:=fun p hp=>hN p (hpm.mem_iff.2 (qR _ (.tail _ hp)))
  have gX:wb.heap.size≤x:=hN (oFt x r.1 (.slice pa r.2.1.tail.length pc) r.2.2) (.head _)
  have my:oFt y r.1 (.slice pa3 r.2.1.tail.length pc3) r.2.2∈MR:=by rw[hMR]; exact .head _
  have mx:oFd b15 f fa fc∈MR:=by rw[hMR]; simp[hfx]
  have hsubM:[oFt y r.1 (.slice pa3 n pc3) r.2.2,oFd b15 f fa fc].Sublist MR:=by
   rw[hMR,hLx,← hn0]
   exact (((List.Sublist.cons_cons _ (List.nil_sublist _)).trans (List.sublist_append_right A3 _)).trans (List.sublist_append_right M0 _)).cons_cons _
  have hCR:∀ w' L',Sy wb L' w'→(∀ p∈L',wb.heap.size≤p.1)→Calls Tryz.prog 51 #[.agg #[str f.nm,.bool f.nl,i64 f.k,i64 f.wd,i64 f.id,i64 f.ix,.slice fa f.sub.length fc]] w' (RetsN w' (fun v M=>∃ pa pc,v=.agg #[i64 r.1,.slice pa n pc,i64 r.2.2]∧PathO M pa pc r.2.1)):=fun w' L' hw' hL'=>by
   rw[hn0,hr]
   exact checkFieldR_walk w' lo (Nat.le_trans hlo hw'.size) f fa fc (x6.sy hlo hw' (fun p hp=>Nat.le_trans hlo (hL' p hp))) x3 x5 x4
  have hEq:∀ w' pa4 pc4,IntsAt w' pa3 (toInts r.2.1.tail)→IntsAt w' pa4 (toInts r.2.1.tail)→Calls Tryz.prog 23 #[.agg #[i64 r.1,.slice pa3 n pc3,i64 r.2.2],.agg #[i64 r.1,.slice pa4 n pc4,i64 r.2.2]] w' (Rets w' (Is (.bool true))):=fun w' pa4 pc4 h1 h2=>by
   rw[hn0]
   exact eqFault_same w' r.1 r.2.2 r.2.1.tail pa3 pa4 pc3 pc4 h1 h2 hlt3
  have mA:∀ p∈A3,p∈MR:=fun p hp=>by rw[hMR]; simp[hp]
  have gAll:∀ (R:Own) (v:Value),(∀ p∈R,wb.heap.size≤p.1)→∀ p∈R++(oFt x r.1 v r.2.2::MR),wb.heap.size≤p.1:=fun R v h p hp=>by
   rcases List.mem_append.1 hp with hp|hp
   ·exact h p hp
   rcases List.mem_cons.1 hp with rfl|hp
   ·exact gX
   ·exact gM p hp
  rw[← hn0]
  rw[← hn0] at hlt3 my hpm
  refine lOn Shp.eq (.head _) rfl ?_
  simp (disch:=omega) only[push_cast,qE,e16,e17,h15,h51,h52,h53]
  rw[Vb]
  simp (disch:=omega) only[push_cast,qE,e16,e17,h15,h51,h52,h53]
  refine loopW (G:=Nat) (KfP wb (.slice (some ⟨b,off,none⟩) l.length c) (i64 l.length) (i64 i) b15 x y r.1 r.2.2 (.slice pa n pc) n MR) (fun i=>n - i) 0 (R0++(oFt x r.1 (.slice pa n pc) r.2.2::MR)) (fun w hw=>hw.perm hpm) (by kernel_rfl) ⟨rfl,rfl,⟨R0,rfl,hR0⟩,by omega,us h51,us h52,us h53,us h15,us e16,us e17,uu,uu⟩ ?_
  clear hpm hN hMR hfx hsx hP1 hP3 hp0 hR0 h51 h52 h53 h15 e16 e17
  rintro j wb e ds L ⟨rfl,rfl,⟨R,rfl,hR⟩,hj,h51,h52,h53,h15,h16,h17,h66,h67⟩
  simp (disch:=omega) only[push_cast,qE,h51,h52,h53,h15,h16,h17,h66,h67]
  rw[Vc]
  simp (disch:=omega) only[push_cast,qE,h51,h52,h53,h15,h16,h17,h66,h67]
  refine cdD (fun hlt=>?_) (fun hge=>?_)
  ·obtain ⟨-,q2,-⟩|⟨bb,ob,cb,cs,q1,rfl,q3,q4,q5,q6⟩:=hR
   ·omega
   injection q1 with q7 q8 q9
   subst q7 q9
   simp (disch:=omega) only[push_cast,qE,h51,h52,h53,h15,h16,h17,h66,h67]
   rw[Vb]
   simp (disch:=omega) only[push_cast,qE,h51,h52,h53,h15,h16,h17,h66,h67]
   refine lOn Shp.eq (.tail _ (.head _)) rfl ?_
   simp (disch:=omega) only[push_cast,qE,h51,h52,h53,h15,h16,h17,h66,h67]
   refine stX 0 rfl Siz.eq rfl rfl (by simp[Value.oneCell']) (by omega) ?_
   simp (disch:=omega) only[push_cast,qE,h51,h52,h53,h15,h16,h17,h66,h67]
   refine ⟨j+1,_,fun w hw=>hw,⟨rfl,rfl,⟨[(bb,Obj.cells _ 3 (0,0))],rfl,.inr ⟨bb,ob,_,_,rfl,rfl,q3,q4,q5,.inr ?_⟩⟩,by omega,h51,h52,h53,h15,h16,h17,h66,uu⟩,by omega⟩
   simp only[List.length_append,List.length_take,List.length_cons,List.length_drop,List.length_nil]; omega
  simp (disch:=omega) only[push_cast,qE,h51,h52,h53,h15,h16,h17,h66,h67]
  rw[Vb]
  simp (disch:=omega) only[push_cast,qE,h51,h52,h53,h15,h16,h17,h66,h67]
  refine loopW (G:=Nat) (KfQ wb (.slice (some ⟨b,off,none⟩) l.length c) (i64 l.length) (i64 i) b15 x y r.1 r.2.2 n MR) (fun k=>20 - k) 0 _ (fun w hw=>hw) (by kernel_rfl) ⟨rfl,rfl,⟨R,_,rfl,hR⟩,by omega,us h51,us h52,us h53,us h15,us h16,us h17,uu⟩ ?_
  clear hR h51 h52 h53 h15 h16 h17 h66 h67 hge
  rintro k wb e ds L ⟨rfl,rfl,⟨R,v,rfl,hR⟩,hk,h51,h52,h53,h15,h16,h17,h19⟩
  obtain ⟨va,vc,rfl⟩:=hR.is_slice
  simp (disch:=omega) only[push_cast,qE,h51,h52,h53,h15,h16,h17,h19]
  rw[Vc]
  simp (disch:=omega) only[push_cast,qE,h51,h52,h53,h15,h16,h17,h19]
  refine cdD (fun hlt=>?_) (fun hge=>?_)
  ·simp (disch:=omega) only[push_cast,qE,h51,h52,h53,h15,h16,h17,h19]
   rw[Vb]
   simp (disch:=omega) only[push_cast,qE,h51,h52,h53,h15,h16,h17,h19]
   refine lOn Shp.eq (qR _ (.head _)) rfl ?_
   simp (disch:=omega) only[push_cast,qE,h51,h52,h53,h15,h16,h17,h19]
   refine bs_49_1 (newI fun b81 hb81 hn81=>?_)
   simp (disch:=omega) only[push_cast,qE,h51,h52,h53,h15,h16,h17,h19]
   have hp1:∀ R:Own,((b81,Obj.cells #[i64 (-6)] 3 (0,0))::(R++(oFt x r.1 (.slice va (n+k) vc) r.2.2::MR))).Perm (R++((b81,Obj.cells #[i64 (-6)] 3 (0,0))::oFt x r.1 (.slice va (n+k) vc) r.2.2::MR)):=fun R=>List.perm_middle.symm
   refine valX_weak (fun w hw=>hw.perm (hp1 R)) (appendP un_49 infoIntN rfl (m:=1) (by omega) (news:=[i64 (-6)]) hR rfl (CanRead.of_own (e:=3) (b:=b81) (cs:=[i64 (-6)]) (n:=1) (qR _ (.head _)) rfl rfl) (by simp[Value.oneCell']) (by simp only[maxLen]; omega) (by omega) (fun v5 R5 hR5=>?_))
   obtain ⟨va5,vc5,hv5⟩:=hR5.is_slice
   subst hv5
   simp (disch:=omega) only[push_cast,qE,h51,h52,h53,h15,h16,h17,h19]
   refine storeX_weak (L':=oFt x r.1 (.slice va (n+k) vc) r.2.2::((b81,Obj.cells #[i64 (-6)] 3 (0,0))::(R5++MR))) (fun w hw=>hw.perm (pC)) (sXa 0 rfl Siz.eq rfl rfl ?_)
   simp (disch:=omega) only[push_cast,qE,h51,h52,h53,h15,h16,h17,h19]
   refine ⟨k+1,R5++(oFt x r.1 (.slice va5 (n+k+1) vc5) r.2.2::MR),fun w hw=>?_,⟨rfl,rfl,⟨R5,_,rfl,hR5⟩,by omega,h51,h52,h53,h15,h16,h17,uu⟩,by omega⟩
   exact ((hw.mid [_] [_] (C:=R5++MR) (fun p hp=>by rw[List.mem_singleton.1 hp]; exact hb81)).perm (show List.Perm (oFt x r.1 (.slice va5 (n+k+1) vc5) r.2.2::(R5++MR)) (R5++(oFt x r.1 (.slice va5 (n+k+1) vc5) r.2.2::MR)) from List.perm_middle.symm))
  have gL:=gAll R (.slice va (n+k) vc) hR.new
  simp (disch:=omega) only[push_cast,qE,h51,h52,h53,h15,h16,h17,h19]
  obtain ⟨LL,hLL⟩:∃ LL:Own,LL=R++(oFt x r.1 (.slice va (n+k) vc) r.2.2::MR):=⟨_,rfl⟩
  rw[← hLL] at gL
  have hML:∀ p∈MR,p∈LL:=fun p hp=>by rw[hLL]; exact qR _ (.tail _ hp)
  refine SemT_weak (L':=LL) (fun w hw=>by rw[hLL]; exact hw) ?_
  have st:∀ M4:Own,(∀ p∈M4,wb.heap.size≤p.1)→Stab wb (M4++LL) [oFt y r.1 (.slice pa3 n pc3) r.2.2,oFd b15 f fa fc]:=fun M4 h2=>Stab.of (hsubM.trans (((List.sublist_cons_self _ _).trans (by rw[hLL]; exact List.sublist_append_right _ _)).trans (List.sublist_append_right M4 LL))) ((nA h2 gL))
  refine freeT [0,1] [2,3,4] [oFt y r.1 (.slice pa3 n pc3) r.2.2,oFd b15 f fa fc] (by kernel_rfl) mixed (by kernel_rfl) (st [] (by simp)) ?_
  simp (disch:=omega) only[push_cast,qE,h51,h52,h53,h15,h16,h17]
  refine lAg Shp.eq mem0 rfl rfl ?_
  simp (disch:=omega) only[push_cast,qE,h51,h52,h53,h15,h16,h17]
  refine lAg Shp.eq mem1 rfl rfl ?_
  simp (disch:=omega) only[push_cast,qE,h51,h52,h53,h15,h16,h17]
  refine callV en_51 (cNw (fun w' hw'=>hCR w' _ hw' gL) (fun v4 M4 hM4 hn4 hS4=>?_))
  (refine xe2 (hS4) (fun pa4 pc4 hz=>?_); have ez:=hz.1; subst ez; have hP4:=hz.2; clear hz)
  simp (disch:=omega) only[push_cast,qE,h51,h52,h53,h15,h16,h17]
  refine ⟨st M4 hM4,?_⟩
  refine callV en_23 (cIs (fun w' hw'=>hEq w' pa4 pc4 (hpath3 w' _ hw' (fun p hp=>qR _ (hML _ (mA p hp)))) (intsAt_tail hw' (fun p hp=>List.mem_append_left _ hp) hP4)) ?_)
  simp (disch:=omega) only[push_cast,qE,h51,h52,h53,h15,h16,h17]
  refine ⟨st M4 hM4,st M4 hM4,?_⟩
  rw[Vc]
  simp (disch:=omega) only[push_cast,qE,h51,h52,h53,h15,h16,h17]
  refine cdB (fun hm=>by cases hm) (fun _=>?_)
  simp (disch:=omega) only[push_cast,qE,h51,h52,h53,h15,h16,h17]
  exact ⟨i+1,_,fun w hw=>hw,⟨rfl,rfl,(nA hM4 gL),by omega,us h51,us h52,uu⟩,by omega⟩
 ·refine sp ?_
  refine lAg Shp.eq mem0 rfl rfl ?_
  refine sp ?_
  refine lAg Shp.eq mem0 rfl rfl ?_
  refine sp ?_
  exact ⟨rfl,us h51,us h52,us h53,rfl,rfl,rfl,fun h=>by simp at h,fun h=>by simp at h,fun h=>by simp at h,0,0,none,none,0,0,[],[],[],[],⟨fun _=>rfl,fun h=>by simp at h,fun _=>rfl,fun h=>by simp at h,fun _=>rfl,fun h=>by simp at h,fun _=>rfl,fun h=>by simp at h⟩,rfl,gx⟩
end Go.Proofs.YtdmdgkpjjpijdaaGreatDoor
