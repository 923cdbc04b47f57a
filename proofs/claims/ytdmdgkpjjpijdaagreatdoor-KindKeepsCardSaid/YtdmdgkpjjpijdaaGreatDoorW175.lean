/- YtdmdgkpjjpijdaaGreatDoor: walks, part 175: a reader that stands behind blanks: asking leaves all as it is. -/
import Derived.Test.YtdmdgkpjjpijdaaGreatDoorW24
import Derived.Test.YtdmdgkpjjpijdaaGreatDoorW192
namespace Go.Proofs.YtdmdgkpjjpijdaaGreatDoor
open Go Go.K
open Nat renaming reduceEqDiff → qE
open List renaming mem_cons → qM, mem_nil_iff → qI, getElem?_eq_getElem → qH
set_option maxRecDepth 100000
set_option linter.unusedVariables false
set_option linter.unusedSimpArgs false
set_option maxHeartbeats 4000000
theorem wrongAt_take {ns:List FNode} {k:Nat} (hk:k < 257):wrongAt (ns.take 257) k=wrongAt ns k:=by
 unfold wrongAt
 rw[List.getElem?_take,if_pos hk,List.take_take,Nat.min_eq_left (by omega)]
structure NotesRI (w0:World) (b1 b2:Nat) (a:Option Addr) (l:List Fld) (c:Nat) (na:Option Addr) (nt:List NoteT) (nc:Nat) (i:Nat) (wb:World) (e:Env) (ds:List Deferred) (L:Own):Prop where
 hw:wb=w0
 d:ds=[]
 o:L=[(qb12 b2),(qb4 b1 a l.length c na nt.length nc)]
 il:i≤nt.length
 no:∀ j n,j < i→nt[j]?=some n→longNote n=false
 h1:e 1=.pointer (some ⟨b1,0,none⟩)
 h2:e 2=.pointer (some ⟨b2,0,none⟩)
 h19:e 19=.slice na nt.length nc
 h20:e 20=i64 nt.length
 h21:e 21=i64 i
structure ChkRI (w0:World) (b2:Nat) (o1 o2:Nat×Obj) (ns:List FNode) (va:Option Addr) (vc:Nat) (rest:Own) (i:Nat) (wb:World) (e:Env) (ds:List Deferred) (L:Own):Prop where
 hw:wb=w0
 hds:ds=[]
 o:L=o2::o1::rest
 il:i≤ns.length
 no:∀ j,j < i→wrongAt ns j=0
 h2:e 2=.pointer (some ⟨b2,0,none⟩)
 h5:e 5=.slice va ns.length vc
 h43:e 43=i64 ns.length
 h44:e 44=i64 i
theorem take_sub {α:Type} (cs:List α) (N o m:Nat) (h:o+m≤N):((cs.take N).drop o).take m=(cs.drop o).take m:=by
 rw[List.drop_take,List.take_take,Nat.min_eq_left (by omega)]
theorem NodesC.reads {wb w':World} {lo:Nat} {A L:Own} {ns:List FNode} {xs cs:List Value} {rb:Nat} (hno:NodesC wb lo A ns xs) (hlo:lo≤wb.heap.size) (hw':Sy wb L w') (hL:∀ p∈L,wb.heap.size≤p.1) (hm:(rb,.cells cs.toArray 119 (0,0))∈L) (hcs:cs.take (ns.length * 10)=xs):NodesW w' lo rb ns:=fun j y hy=>by
 obtain ⟨cj,hcj,htk⟩:=hno.get j hy
 have hjl:=(List.getElem?_eq_some_iff.1 hy).1
 have hl10:=hcj.len
 refine ⟨cj,⟨cs.toArray,_,_,hw'.own rb _ hm,?_⟩,?_⟩
 ·rw[hl10,← htk,← hcs,take_sub _ _ _ _ (by omega)]
 ·obtain ⟨pb,fa,aa,fc,ac,h1,h2,h3,h4,h5,h6,h7,h8,h9,h10,h11⟩:=hcj
  exact ⟨some ⟨pb,0,none⟩,fa,aa,y.path.length,fc,ac,h1,h5.sy hlo hw' (fun p hp=>Nat.le_trans hlo (hL p hp)),h6,h8,h9.sy hlo hw' (fun p hp=>Nat.le_trans hlo (hL p hp)),h10,h11⟩
theorem checkR_walk (w:World) (lo:Nat) (hlo:lo≤w.heap.size) (l:List Fld) (a:Option Addr) (c:Nat) (hr:Rd w lo a l) (hc:l.length≤c) (hc2:c≤9223372036854775807)
 (nt:List NoteT) (na:Option Addr) (nc:Nat) (hn:RdN w lo na nt) (hnc:nt.length≤nc) (hnc2:nc≤9223372036854775807) :
 Calls Tryz.prog 24 #[.agg #[.slice a l.length c,.slice na nt.length nc]] w (RetsN w (fun v M=>wrongFault v M (checkP l nt))):=by
 refine enterT (args:=[.agg #[.slice a l.length c,.slice na nt.length nc]]) Tryz.func24 rfl Tryz.ntmps24 (congrArg Array.toList Tryz.results24) (by kernel_rfl) (by simp) (Sy.refl w) ?_
 refine sp ?_
 refine newI (fun b1 hb1 hn1=>?_)
 refine sp ?_
 refine newI (fun b2 hb2 hn2=>?_)
 have hL:∀ fl:Array Value,∀ p∈[(b2,Obj.cells fl 51 (0,0)),(qb4 b1 a l.length c na nt.length nc)],w.heap.size≤p.1:=by
  intro fl p hp
  simp only[qM,qI,or_false] at hp
  rcases hp with rfl|rfl<;>assumption
 refine sp ?_
 repeat' (first|((first|((first|refine gT rfl ?_ ?_|refine gF rfl ?_ ?_|refine cdD ?_ ?_)<;>intro h)|((first|refine gbT rfl ?_ ?_|refine gbF rfl ?_ ?_|refine cdB ?_ ?_)<;>intro h<;>(try subst h))|refine lOa Shp.eq rfl ?_|refine lAa Shp.eq rfl rfl ?_|refine newI (fun b hb hn=>?_)|refine sXb Siz.eq rfl rfl ?_)<;>simp (disch:=omega) only[push_cast,qE]))
 rw[Vc]
 refine sp ?_
 refine cdD (fun c1=>?_) (fun c1=>?_)
 ·refine sp ?_
  repeat' (first|((first|((first|refine gT rfl ?_ ?_|refine gF rfl ?_ ?_|refine cdD ?_ ?_)<;>intro h)|((first|refine gbT rfl ?_ ?_|refine gbF rfl ?_ ?_|refine cdB ?_ ?_)<;>intro h<;>(try subst h))|refine lOa Shp.eq rfl ?_|refine lAa Shp.eq rfl rfl ?_|refine newI (fun b hb hn=>?_)|refine sXb Siz.eq rfl rfl ?_)<;>simp (disch:=omega) only[push_cast,qE]))
  exact fun w' hw'=>⟨_,[],rfl,hw'.end (hL _),by simp,by unfold checkP; rw[if_pos (by omega)]; exact ⟨none,0,rfl,⟨rfl,.inl ⟨rfl,rfl⟩⟩,fun _=>⟨rfl,rfl⟩⟩⟩
 refine sp ?_
 repeat' (first|((first|((first|refine gT rfl ?_ ?_|refine gF rfl ?_ ?_|refine cdD ?_ ?_)<;>intro h)|((first|refine gbT rfl ?_ ?_|refine gbF rfl ?_ ?_|refine cdB ?_ ?_)<;>intro h<;>(try subst h))|refine lOa Shp.eq rfl ?_|refine lAa Shp.eq rfl rfl ?_|refine newI (fun b hb hn=>?_)|refine sXb Siz.eq rfl rfl ?_)<;>simp (disch:=omega) only[push_cast,qE]))
 rw[Vc]
 refine sp ?_
 refine cdD (fun c2=>?_) (fun c2=>?_)
 ·refine sp ?_
  repeat' (first|((first|((first|refine gT rfl ?_ ?_|refine gF rfl ?_ ?_|refine cdD ?_ ?_)<;>intro h)|((first|refine gbT rfl ?_ ?_|refine gbF rfl ?_ ?_|refine cdB ?_ ?_)<;>intro h<;>(try subst h))|refine lOa Shp.eq rfl ?_|refine lAa Shp.eq rfl rfl ?_|refine newI (fun b hb hn=>?_)|refine sXb Siz.eq rfl rfl ?_)<;>simp (disch:=omega) only[push_cast,qE]))
  exact fun w' hw'=>⟨_,[],rfl,hw'.end (hL _),by simp,by unfold checkP; rw[if_neg (by omega),if_pos (by omega)]; exact ⟨none,0,rfl,⟨rfl,.inl ⟨rfl,rfl⟩⟩,fun _=>⟨rfl,rfl⟩⟩⟩
 refine sp ?_
 repeat' (first|((first|((first|refine gT rfl ?_ ?_|refine gF rfl ?_ ?_|refine cdD ?_ ?_)<;>intro h)|((first|refine gbT rfl ?_ ?_|refine gbF rfl ?_ ?_|refine cdB ?_ ?_)<;>intro h<;>(try subst h))|refine lOa Shp.eq rfl ?_|refine lAa Shp.eq rfl rfl ?_|refine newI (fun b hb hn=>?_)|refine sXb Siz.eq rfl rfl ?_)<;>simp (disch:=omega) only[push_cast,qE]))
 rw[Vb]
 refine sp ?_
 refine loopW (G:=Nat) (NotesRI w b1 b2 a l c na nt nc) (fun i=>nt.length - i) 0 _ (fun w hw=>hw) (by kernel_rfl) ⟨rfl,rfl,rfl,by omega,by omega,rfl,rfl,rfl,rfl,rfl⟩ ?_
 rintro i wb e ds L ⟨rfl,rfl,rfl,hil,hno,h1,h2,h19,h20,h21⟩
 simp (disch:=omega) only[push_cast,qE,h1,h2,h19,h20,h21]
 rw[Vc]
 simp (disch:=omega) only[push_cast,qE,h1,h2,h19,h20,h21]
 refine cdD (fun hlt=>?_) (fun hge=>?_)
 ·obtain ⟨n,hnn⟩:∃ n,nt[i]?=some n:=⟨_,qH (by omega)⟩
  rcases hn with rfl|⟨nb,noff,rfl,hnb,hn⟩
  ·simp at hnn
  obtain ⟨y1,y2,y3⟩:=hn i n hnn
  simp (disch:=omega) only[push_cast,qE,h1,h2,h19,h20,h21]
  rw[Vb]
  simp (disch:=omega) only[push_cast,qE,h1,h2,h19,h20,h21]
  refine ldAggF sh_90 y3 rfl (out_of (fun p hp=>Nat.lt_of_lt_of_le (Nat.lt_of_lt_of_le hnb hlo) (hL _ p hp))) ?_
  simp (disch:=omega) only[push_cast,qE,h1,h2,h19,h20,h21]
  refine newI (fun bn hbn hnn2=>?_)
  have hL3:∀ fl:Array Value,∀ p∈[(qb5 bn n.1 n.2),(b2,Obj.cells fl 51 (0,0)),(b1,Obj.cells #[.slice a l.length c,.slice (some ⟨nb,noff,none⟩) nt.length nc] 27 (0,0))],wb.heap.size≤p.1:=by
   intro fl p hp
   rcases List.mem_cons.1 hp with rfl|hp
   ·assumption
   ·exact hL fl p hp
  simp (disch:=omega) only[push_cast,qE,h1,h2,h19,h20,h21]
  repeat' (first|((first|((first|refine gT rfl ?_ ?_|refine gF rfl ?_ ?_|refine cdD ?_ ?_)<;>intro h)|((first|refine gbT rfl ?_ ?_|refine gbF rfl ?_ ?_|refine cdB ?_ ?_)<;>intro h<;>(try subst h))|refine lOa Shp.eq rfl ?_|refine lAa Shp.eq rfl rfl ?_|refine newI (fun b hb hn=>?_)|refine sXb Siz.eq rfl rfl ?_)<;>simp (disch:=omega) only[push_cast,qE,h1,h2,h19,h20,h21]))
  all_goals (rw[Vc]; simp (disch:=omega) only[push_cast,qE,h1,h2,h19,h20,h21])
  ·refine cdD (fun hb2=>?_) (fun hb2=>?_)
   ·simp (disch:=omega) only[push_cast,qE,h1,h2,h19,h20,h21]
    repeat' (first|((first|((first|refine gT rfl ?_ ?_|refine gF rfl ?_ ?_|refine cdD ?_ ?_)<;>intro h)|((first|refine gbT rfl ?_ ?_|refine gbF rfl ?_ ?_|refine cdB ?_ ?_)<;>intro h<;>(try subst h))|refine lOa Shp.eq rfl ?_|refine lAa Shp.eq rfl rfl ?_|refine newI (fun b hb hn=>?_)|refine sXb Siz.eq rfl rfl ?_)<;>simp (disch:=omega) only[push_cast,qE,h1,h2,h19,h20,h21]))
    refine fun w' hw'=>⟨_,[],rfl,hw'.end (hL3 _),by simp,?_⟩
    have:checkP l nt=((37:Int),([]:List Nat),(i:Int)):=by
     unfold checkP
     rw[if_neg (by omega),if_neg (by omega),note_at hno hnn (by simp only[longNote,Bool.or_eq_true,decide_eq_true_eq]; omega)]
    rw[this]
    exact ⟨none,0,rfl,⟨rfl,.inl ⟨rfl,rfl⟩⟩,fun _=>⟨rfl,rfl⟩⟩
   ·simp (disch:=omega) only[push_cast,qE,h1,h2,h19,h20,h21]
    exact ⟨i+1,_,fun w hw=>hw.mid [] [(qb5 bn n.1 n.2)] (fun p hp=>by rw[List.mem_singleton.1 hp]; exact hbn),⟨rfl,rfl,rfl,by omega,fun j m hj hm=>by
     rcases Nat.lt_or_ge j i with h5|h5
     ·exact hno j m h5 hm
     ·obtain rfl:j=i:=by omega
      rw[hnn] at hm
      cases hm
      simp only[longNote,Bool.or_eq_false_iff,decide_eq_false_iff_not]
      omega,h1,h2,h19,h20,uu⟩,by omega⟩
  ·repeat' (first|((first|((first|refine gT rfl ?_ ?_|refine gF rfl ?_ ?_|refine cdD ?_ ?_)<;>intro h)|((first|refine gbT rfl ?_ ?_|refine gbF rfl ?_ ?_|refine cdB ?_ ?_)<;>intro h<;>(try subst h))|refine lOa Shp.eq rfl ?_|refine lAa Shp.eq rfl rfl ?_|refine newI (fun b hb hn=>?_)|refine sXb Siz.eq rfl rfl ?_)<;>simp (disch:=omega) only[push_cast,qE,h1,h2,h19,h20,h21]))
   refine fun w' hw'=>⟨_,[],rfl,hw'.end (hL3 _),by simp,?_⟩
   have:checkP l nt=((37:Int),([]:List Nat),(i:Int)):=by
    unfold checkP
    rw[if_neg (by omega),if_neg (by omega),note_at hno hnn (by simp only[longNote,Bool.or_eq_true,decide_eq_true_eq]; omega)]
   rw[this]
   exact ⟨none,0,rfl,⟨rfl,.inl ⟨rfl,rfl⟩⟩,fun _=>⟨rfl,rfl⟩⟩
 ·obtain rfl:i=nt.length:=by omega
  have hnone:nt.findIdx? longNote=none:=by
   rw[List.findIdx?_eq_none_iff]
   intro x hx
   obtain ⟨j,hj⟩:=List.mem_iff_getElem?.1 hx
   exact hno j x (List.getElem?_eq_some_iff.1 hj).1 hj
  simp (disch:=omega) only[push_cast,qE,h1,h2,h19,h20,h21]
  have hdone:∀ r:Int×List Nat×Int,r=((faultN (nd 65 [] false l)).1,(faultN (nd 65 [] false l)).2,0)→checkP l nt=r:=fun r hr=>by
   rw[hr]
   unfold checkP
   rw[if_neg (by omega),if_neg (by omega),hnone]
  repeat' (first|((first|((first|refine gT rfl ?_ ?_|refine gF rfl ?_ ?_|refine cdD ?_ ?_)<;>intro h)|((first|refine gbT rfl ?_ ?_|refine gbF rfl ?_ ?_|refine cdB ?_ ?_)<;>intro h<;>(try subst h))|refine lOa Shp.eq rfl ?_|refine lAa Shp.eq rfl rfl ?_|refine newI (fun b hb hn=>?_)|refine sXb Siz.eq rfl rfl ?_)<;>simp (disch:=omega) only[push_cast,qE,h1,h2,h19,h20,h21]))
  refine callV en_64 (callX_own (fun w' hw'=>grow_ok 64 wb w' _ [] _ lo (.slice none 0 0) [] [] [] (.slice none 0 0) l a c false hw' hlo (hL _) ⟨rfl,.inl ⟨rfl,rfl,rfl⟩⟩ rfl (by simp) ⟨rfl,.inl ⟨rfl,rfl⟩⟩ rfl hr hc hc2) (fun v' L' hS=>?_))
  obtain ⟨A,xs,hro,hno,hA,_⟩:=hS
  rw[List.nil_append] at hro hno
  generalize hns:(nd 65 [] false l).take 257=ns at hro hno
  obtain ⟨va,vc,rfl⟩:=hro.is_slice
  simp (disch:=omega) only[push_cast,qE,h1,h2]
  rw[Vb]
  simp (disch:=omega) only[push_cast,qE,h1,h2]
  have hnl:ns.length≤257:=by rw[← hns]; exact List.length_take_le _ _
  have hwn:∀ k,k < 257→wrongAt ns k=wrongAt (nd 65 [] false l) k:=fun k hk=>by rw[← hns]; exact wrongAt_take hk
  obtain ⟨rest,hAr,hrb,hperm,hrow⟩:∃ rest:Own,(∀ p∈A,p∈rest)∧(∀ p∈rest,wb.heap.size≤p.1)∧(∀ w,Sy wb L' w→Sy wb ((qb12 b2)::(qb4 b1 a l.length c na nt.length nc)::rest) w)∧(ns≠[]→∃ (rb:Nat) (cs:List Value),va=some ⟨rb,0,none⟩∧(rb,Obj.cells cs.toArray 119 (0,0))∈rest∧cs.take (ns.length * 10)=xs∧ns.length≤vc):=by
   obtain ⟨hxl,⟨h1,h2,h3⟩|⟨rb,cap,cs,h1,h2,h3,h4,h5,h6,h7⟩⟩:=hro
   ·exact ⟨A,fun p hp=>hp,hA,fun w hw=>by rw[h3] at hw; exact hw.perm List.perm_append_comm,fun h=>absurd (List.eq_nil_of_length_eq_zero h2) h⟩
   ·injection h1 with q1 q2 q3
    refine ⟨(rb,Obj.cells cs.toArray 119 (0,0))::A,fun p hp=>.tail _ hp,fun p hp=>?_,fun w hw=>?_,fun _=>⟨rb,cs,q1,.head _,h7,by omega⟩⟩
    ·rcases List.mem_cons.1 hp with rfl|hp
     ·exact h3
     ·exact hA p hp
    ·rw[h2] at hw
     exact hw.perm (List.perm_append_comm (l₁:=(rb,Obj.cells cs.toArray 119 (0,0))::A) (l₂:=[(qb12 b2),(qb4 b1 a l.length c na nt.length nc)]))
  have hLr:∀ x,∀ p∈((b2,(x:Obj))::(qb4 b1 a l.length c na nt.length nc)::rest),wb.heap.size≤p.1:=fun x p hp=>by
   simp only[qM] at hp
   rcases hp with rfl|rfl|hp
   ·exact hb2
   ·exact hb1
   ·exact hrb p hp
  refine loopW (G:=Nat) (ChkRI wb b2 (qb4 b1 a l.length c na nt.length nc) (qb12 b2) ns va vc rest) (fun i=>ns.length - i) 0 _ hperm (by kernel_rfl) ⟨rfl,rfl,rfl,by omega,by omega,h2,rfl,rfl,rfl⟩ ?_
  clear h1 h2 h19 h20 h21 e hro
  rintro i wb e ds L ⟨rfl,rfl,rfl,hil,hz,h2,h5,h43,h44⟩
  simp (disch:=omega) only[push_cast,qE,h2,h5,h43,h44]
  rw[Vc]
  simp (disch:=omega) only[push_cast,qE,h2,h5,h43,h44]
  refine cdD (fun hlt=>?_) (fun hge=>?_)
  ·obtain ⟨x,hx⟩:∃ x,ns[i]?=some x:=⟨_,qH (by omega)⟩
   obtain ⟨rb,cs,rfl,hrm,hcs,hvc⟩:=hrow (fun h=>by rw[h] at hx; simp at hx)
   have hwr:wrongAt ns i=wrongN x.path.length x.ah x.f x.ind i (idsOf (ns.take i)):=by unfold wrongAt; rw[hx]
   simp (disch:=omega) only[push_cast,qE,h2,h5,h43,h44]
   rw[Vb]
   simp (disch:=omega) only[push_cast,qE,h2,h5,h43,h44]
   refine callV en_65 (cIs (fun w' hw'=>wrongR_walk w' lo (Nat.le_trans hlo hw'.size) rb vc ns (hno.reads hlo hw' (hLr _) (.tail _ (.tail _ hrm)) hcs) hvc (by omega) i x hx) ?_)
   rw[← hwr]
   simp (disch:=omega) only[push_cast,qE,h2,h5,h43,h44]
   rw[Vc]
   simp (disch:=omega) only[push_cast,qE,h2,h5,h43,h44]
   refine cdD (fun hne0=>?_) (fun heq0=>?_)
   ·obtain ⟨ci,hci,htk⟩:=hno.get i hx
    obtain ⟨pb,fa,aa,fc,ac,rfl,hpm,hpb,hp65,_⟩:=hci
    have hcell:cs[i * 10]?=some (.slice (some ⟨pb,0,none⟩) x.path.length x.path.length):=by
     have h9:=congrArg (·[0]?) htk
     rw[← hcs,take_sub _ _ _ _ (by omega)] at h9
     simpa [List.getElem?_take,List.getElem?_drop] using h9
    have hpa:pathAt (nd 65 [] false l) i=x.path:=by
     have:(nd 65 [] false l)[i]?=some x:=by
      rw[← hns,List.getElem?_take,if_pos (by omega)] at hx
      exact hx
     unfold pathAt; rw[this]
    have hres:checkP l nt=(wrongAt ns i,x.path,(0:Int)):=hdone _ (by
     have hil2:i < (nd 65 [] false l).length:=by
      have:=(List.getElem?_eq_some_iff.1 hx).1
      rw[← hns,List.length_take] at this
      omega
     rw[hwn i (by omega)] at hne0 ⊢
     have hf:firstWrong (nd 65 [] false l)=some i:=firstWrong_at hil2 (fun j hj=>by rw[← hwn j (by omega)]; exact hz j hj) hne0
     simp only[faultN,hf,hpa])
    simp (disch:=omega) only[push_cast,qE,h2,h5,h43,h44]
    refine lOn sh_49 (.tail _ (.tail _ hrm)) (un hcell) ?_
    simp (disch:=omega) only[push_cast,qE,h2,h5,h43,h44]
    repeat' (first|((first|((first|refine gT rfl ?_ ?_|refine gF rfl ?_ ?_|refine cdD ?_ ?_)<;>intro h)|((first|refine gbT rfl ?_ ?_|refine gbF rfl ?_ ?_|refine cdB ?_ ?_)<;>intro h<;>(try subst h))|refine lOa Shp.eq rfl ?_|refine lAa Shp.eq rfl rfl ?_|refine newI (fun b hb hn=>?_)|refine sXb Siz.eq rfl rfl ?_)<;>simp (disch:=omega) only[push_cast,qE,h2,h5,h43,h44]))
    have hpne:x.path≠[]:=by
     rw[← hpa]
     refine pathAt_ne ?_
     have:=(List.getElem?_eq_some_iff.1 hx).1
     rw[← hns,List.length_take] at this
     omega
    exact fun w' hw'=>⟨_,[(pb,Obj.cells (ints x.path).toArray 3 (0,0))],rfl,hw'.drop (List.singleton_sublist.2 (.tail _ (.tail _ (hAr _ hpm)))) (fun p hp=>.inr (hLr _ p hp)),un hpb,by
     rw[hres]
     exact ⟨some ⟨pb,0,none⟩,x.path.length,rfl,⟨by simp[ints],.inr ⟨pb,x.path.length,ints x.path,rfl,.head _,Nat.le_refl _,by simp only[maxLen]; omega,by simp[ints],List.take_of_length_le (by simp[ints])⟩⟩,fun h=>absurd h hpne⟩⟩
   ·simp (disch:=omega) only[push_cast,qE,h2,h5,h43,h44]
    refine ⟨i+1,_,fun w hw=>hw,⟨rfl,rfl,rfl,by omega,fun j hj=>?_,h2,h5,h43,uu⟩,by omega⟩
    rcases Nat.lt_or_ge j i with h|h
    ·exact hz j h
    ·obtain rfl:j=i:=by omega
     exact Decidable.not_not.1 heq0
  ·have hlast:(nd 65 [] false l).length≤256:=by
    rcases Nat.lt_or_ge 256 (nd 65 [] false l).length with h|h
    ·have hlen:ns.length=257:=by rw[← hns,List.length_take]; omega
     have h0:=hz 256 (by omega)
     rw[hwn 256 (by omega)] at h0
     unfold wrongAt at h0
     rw[qH h] at h0
     have:=(wrongN_many h0).2
     omega
    ·exact h
   have hres:checkP l nt=((0:Int),([]:List Nat),(0:Int)):=hdone _ (by
    have hlen:ns.length=(nd 65 [] false l).length:=by rw[← hns,List.length_take]; omega
    have hf:firstWrong (nd 65 [] false l)=none:=firstWrong_none (fun j hj=>by rw[← hwn j (by omega)]; exact hz j (by omega))
    simp only[faultN,hf])
   simp (disch:=omega) only[push_cast,qE,h2,h5,h43,h44]
   repeat' (first|((first|((first|refine gT rfl ?_ ?_|refine gF rfl ?_ ?_|refine cdD ?_ ?_)<;>intro h)|((first|refine gbT rfl ?_ ?_|refine gbF rfl ?_ ?_|refine cdB ?_ ?_)<;>intro h<;>(try subst h))|refine lOa Shp.eq rfl ?_|refine lAa Shp.eq rfl rfl ?_|refine newI (fun b hb hn=>?_)|refine sXb Siz.eq rfl rfl ?_)<;>simp (disch:=omega) only[push_cast,qE,h2,h5,h43,h44]))
   exact fun w' hw'=>⟨_,[],rfl,hw'.end (hLr _),by simp,by rw[hres]; exact ⟨none,0,rfl,⟨rfl,.inl ⟨rfl,rfl⟩⟩,fun _=>⟨rfl,rfl⟩⟩⟩
theorem checkFieldR_walk (w:World) (lo:Nat) (hlo:lo≤w.heap.size) (f:Fld) (a:Option Addr) (c:Nat) (hf:Rd w lo a f.sub) (hfc:f.sub.length≤c) (hc2:c≤9223372036854775807) (hfn:f.nm.length≤9223372036854775807) :
 Calls Tryz.prog 51 #[.agg #[str f.nm,.bool f.nl,i64 f.k,i64 f.wd,i64 f.id,i64 f.ix,.slice a f.sub.length c]] w (RetsN w (fun v M=>∃ pa pc,v=.agg #[i64 (checkP [f] []).1,.slice pa (checkP [f] []).2.1.tail.length pc,i64 (checkP [f] []).2.2]∧(pa=none∧pc=0∧(checkP [f] []).2.1=[]∨∃ b cap cs,pa=some ⟨b,if cap=1 then 0 else 1,none⟩∧pc=cap - 1∧(b,.cells cs 3 (0,0))∈M∧RowIn [(b,.cells cs 3 (0,0))] 3 (.slice (some ⟨b,0,none⟩) (checkP [f] []).2.1.length cap) (checkP [f] []).2.1.length (ints (checkP [f] []).2.1)))):=by
 refine enterT (args:=[.agg #[str f.nm,.bool f.nl,i64 f.k,i64 f.wd,i64 f.id,i64 f.ix,.slice a f.sub.length c]]) Tryz.func51 rfl Tryz.ntmps51 (congrArg Array.toList Tryz.results51) (by kernel_rfl) (by simp) (Sy.refl w) ?_
 refine sp ?_
 refine newI (fun b1 hb1 hn1=>?_)
 refine sp ?_
 refine newI (fun b2 hb2 hn2=>?_)
 refine sp ?_
 refine lAg sh_37 (.tail _ (.head _)) rfl rfl ?_
 refine sp ?_
 refine bs_24_1 (newI fun b3 hb3 hn3=>?_)
 have hL:∀ p∈[(qb0 b3 f a c),(b2,Obj.cells #[.int .i64 0,.slice none 0 0,.int .i64 0] 51 (0,0)),(qb0 b1 f a c)],w.heap.size≤p.1:=by
  intro p hp
  simp only[qM,qI,or_false] at hp
  rcases hp with rfl|rfl|rfl<;>assumption
 refine sp ?_
 refine callV en_24 (callX_newR (fun w' hw'=>checkR_walk w' w'.heap.size (Nat.le_refl _) [f] (some ⟨b3,0,none⟩) 1 (.cons (hw'.lt (.head _)) hfc hfn hc2 (At.of_own hw' (.head _) rfl) ((hf.sy hlo hw' (fun p hp=>Nat.le_trans hlo (hL p hp))).weaken (Nat.le_trans hlo hw'.size)) (.nil _)) (by simp) (by omega) [] none 0 (.inl rfl) (by simp) (by omega)) (fun v M hM hMn ⟨pa,pc,hv,hrow,hnil⟩=>?_))
 subst hv
 refine sp ?_
 refine newI (fun b4 hb4 hn4=>?_)
 refine sp ?_
 repeat' (first|((first|((first|refine gT rfl ?_ ?_|refine gF rfl ?_ ?_|refine cdD ?_ ?_)<;>intro h)|((first|refine gbT rfl ?_ ?_|refine gbF rfl ?_ ?_|refine cdB ?_ ?_)<;>intro h<;>(try subst h))|refine lOa Shp.eq rfl ?_|refine lAa Shp.eq rfl rfl ?_|refine newI (fun b hb hn=>?_)|refine sXb Siz.eq rfl rfl ?_)<;>simp (disch:=omega) only[push_cast,qE]))
 generalize checkP [f] []=r at *
 have hnew:∀ (x y z u:Obj),∀ p∈[(b4,x),(b3,y),(b2,z),(b1,u)],w.heap.size≤p.1:=by
  intro x y z u p hp
  simp only[qM,qI,or_false] at hp
  rcases hp with rfl|rfl|rfl|rfl<;>assumption
 rw[Vc]
 refine sp ?_
 refine cdD (fun hpos=>?_) (fun hneg=>?_)
 ·obtain ⟨_,⟨he,h0⟩|⟨b,cap,cs,he,hm,h1,h2,h3,h4⟩⟩:=hrow
  ·omega
  injection he with he1 he2 he3
  subst he1; subst he3
  refine sp ?_
  repeat' (first|((first|((first|refine gT rfl ?_ ?_|refine gF rfl ?_ ?_|refine cdD ?_ ?_)<;>intro h)|((first|refine gbT rfl ?_ ?_|refine gbF rfl ?_ ?_|refine cdB ?_ ?_)<;>intro h<;>(try subst h))|refine lOa Shp.eq rfl ?_|refine lAa Shp.eq rfl rfl ?_|refine newI (fun b hb hn=>?_)|refine sXb Siz.eq rfl rfl ?_)<;>simp (disch:=omega) only[push_cast,qE]))
  refine fun w' hw'=>⟨_,M,rfl,hw'.left (A:=[_,_,_,_]) (hnew _ _ _ _),hM,some ⟨b,if pc=1 then 0 else 1,none⟩,pc - 1,?_,.inr ⟨b,pc,cs.toArray,rfl,rfl,hm,?_⟩⟩
  ·rw[List.length_tail]
  ·exact ⟨by simp[ints],.inr ⟨b,pc,cs,rfl,.head _,h1,h2,h3,h4⟩⟩
 ·refine sp ?_
  repeat' (first|((first|((first|refine gT rfl ?_ ?_|refine gF rfl ?_ ?_|refine cdD ?_ ?_)<;>intro h)|((first|refine gbT rfl ?_ ?_|refine gbF rfl ?_ ?_|refine cdB ?_ ?_)<;>intro h<;>(try subst h))|refine lOa Shp.eq rfl ?_|refine lAa Shp.eq rfl rfl ?_|refine newI (fun b hb hn=>?_)|refine sXb Siz.eq rfl rfl ?_)<;>simp (disch:=omega) only[push_cast,qE]))
  have hr0:r.2.1=[]:=List.eq_nil_of_length_eq_zero (by omega)
  obtain ⟨rfl,rfl⟩:=hnil hr0
  refine fun w' hw'=>⟨_,M,rfl,hw'.left (A:=[_,_,_,_]) (hnew _ _ _ _),hM,none,0,?_,.inl ⟨rfl,rfl,hr0⟩⟩
  rw[hr0]
  rfl
end Go.Proofs.YtdmdgkpjjpijdaaGreatDoor
namespace Go.K
open Go
open Nat renaming reduceEqDiff → qE
open List renaming mem_cons → qM, mem_nil_iff → qI, getElem?_eq_getElem → qH
variable {P:Program} {wb:World} {L:Own}
def endC (Q:World→Own→Prop):Post
 | .ret,wb,_,ds,L | .normal,wb,_,ds,L=>ds=[]∧Q wb L
 | _,_,_,_,_=>False
@[push_cast] theorem endC_ret {Q:World→Own→Prop} {e:Env} {ds:List Deferred}:endC Q .ret wb e ds L=(ds=[]∧Q wb L):=(rfl)
@[push_cast] theorem endC_normal {Q:World→Own→Prop} {e:Env} {ds:List Deferred}:endC Q .normal wb e ds L=(ds=[]∧Q wb L):=(rfl)
theorem callsD_rec {f:FuncId} {fn:Func} {rest:Code} {id n:Nat} {ops:Array Oper} {o0 o1:Oper} {t0 t1:Nat} {args:List Value} {u u2:FrameMode} {v:Value} {w:World} {R:Ending→FrameMode→World→Prop}
 (hf:P.funcs[f]?=some fn) (hb:fn.body=some (.seq (.region id ops false) rest)) (hn:fn.ntmps=n) (hrs:fn.results=#[]) (hops:ops=#[o0,o1])
 (hg0:o0.guard=none) (hg1:o1.guard=none) (hr0:∀ ev w,(execOp ev o0).run P w=.ok .recover w) (hr1:∀ ev w,(execOp ev o1).run P w=.ok (.value (ev (.tmp t0))) w)
 (hd0:o0.dst=some t0) (hd1:o1.dst=some t1) (ht0:t0 < n) (ht1:t1 < n) (hsz:args.length≤n) (hok:okCode n rest=true)
 (hu:(u=.returning∧v=.nilIface∧u2=.returning)∨∃ x older,v=x∧u=.panicking ({ v:=v,recovered:=false }::older)∧u2=.panicking ({ v:=v,recovered:=true }::older))
 (hw:Sy wb L w)
 (h:VT ⟨P,n,none⟩ (tag rest) (tag (endC (fun wb L=>∀ w,Sy wb L w→R (.returned (.tuple #[])) u2 w))) wb (upd (upd (env0 args) t0 v) t1 v) [] L):CallsD P f args.toArray u w R:=by
 subst hn hops
 refine callsD_of_wpS hf hb fun c₀ cs hc=>?_
 apply wpS_seq
 apply wpS_region
 have hw0:∀ y,Region.wanted o0 y=true:=fun y=>by simp[Region.wanted,hg0]
 have hw1:∀ y,Region.wanted o1 y=true:=fun y=>by simp[Region.wanted,hg1]
 have r0:=rep0 (n:=fn.ntmps) (args:=args) hsz
 have r1:=r0.put (ds':=[]) (some t0) (fun k hk=>by cases hk; exact ht0) v
 have r2:=r1.put (ds':=[]) (some t1) (fun k hk=>by cases hk; exact ht1) v
 have hev:∀ (a:Act) (e:Env),Rep fn.ntmps a (puto e (some t0) v) []→a.eval (.tmp t0)=v:=fun a e hr=>by rw[hr.eval]; show (upd e t0 v) t0=v; simp[upd]
 have main:∀ a,Rep fn.ntmps a (upd (upd (env0 args) t0 v) t1 v) []→rest.wpS P (bodyPostS P fn c₀ cs R) a ({ c₀ with mode:=u2 }::cs) w:=fun a hr=>by
  refine wpS_of_wp ((wpIn_wide (n:=0)).1 (wpIn_mono (V_sound (c:=⟨P,fn.ntmps,none⟩) rest _ wb _ [] L hok h a w hr hw) ?_))
  rintro x a' w' ⟨wb',e',ds',L',hr',hw',hq⟩
  cases x with
  | normal=>exact ⟨hr'.defers.trans hq.1,u2,rfl,.tuple #[],by simp[results,hrs],hq.2 w' hw'⟩
  | ret=>exact ⟨hr'.defers.trans hq.1,u2,rfl,.tuple #[],by simp[results,hrs],hq.2 w' hw'⟩
  | panic ch=>exact hq.elim
  | exit id=>exact hq.elim
  | goto l=>exact hq.elim
  | outgrown=>exact hq.elim
 have hrange:List.range (#[o0,o1]:Array Oper).size=[0,1]:=rfl
 rw[hrange]
 rcases hu with ⟨rfl,rfl,rfl⟩|⟨x,older,rfl,rfl,rfl⟩
 ·have hc0:({ c₀ with mode:=FrameMode.returning }:Frame)=c₀:=by cases c₀; simp_all
  rw[hc0] at main
  simp only[wpOpsS,hw0,hw1,if_true,hr0,hr1,recoverD,hc,Oper.upon,hd0,hd1,List.getElem?_toArray,List.getElem?_cons_zero,List.getElem?_cons_succ]
  simp only[Exit.thenS]
  refine main _ ?_
  rw[hev _ _ r1]
  exact r2
 ·simp only[wpOpsS,hw0,hw1,if_true,hr0,hr1,recoverD,hc,Oper.upon,hd0,hd1,List.getElem?_toArray,List.getElem?_cons_zero,List.getElem?_cons_succ]
  simp only[Exit.thenS]
  refine main _ ?_
  rw[hev _ _ r1]
  exact r2
end Go.K
namespace Go.Proofs.YtdmdgkpjjpijdaaGreatDoor
open Go Go.K
open Nat renaming reduceEqDiff → qE
open List renaming mem_cons → qM, mem_nil_iff → qI, getElem?_eq_getElem → qH
set_option maxRecDepth 100000
set_option linter.unusedVariables false
set_option linter.unusedSimpArgs false
set_option maxHeartbeats 4000000
theorem parseC_idle (wb w:World) (L:Own) (hw:Sy wb L w) (v1 v2 v3:Value) :
 CallsD Tryz.prog 33 #[v1,v2,v3] .returning w fun e' u' w'=>e'=.returned (.tuple #[])∧u'=.returning∧Sy wb L w':=by
 refine callsD_rec (args:=[v1,v2,v3]) Tryz.func33 rfl Tryz.ntmps33 Tryz.results33 rfl rfl rfl (fun ev w=>rfl) (fun ev w=>rfl) rfl rfl (by omega) (by omega) (by simp) (by kernel_rfl) (.inl ⟨rfl,rfl,rfl⟩) hw ?_
 refine sp ?_
 refine Eq.mpr (px (v:=.bool false) (fun w=>by rfl) _) ?_
 refine sp ?_
 rw[Vc]
 refine sp ?_
 exact fun w hw=>hw
abbrev oFa (b:Nat) (q:Nat):Nat×Obj:=(b,Obj.cells #[i64 q] 69 (0,0))
abbrev oEr (b:Nat) (e:Int):Nat×Obj:=(b,Obj.cells #[i64 e] 28 (0,0))
abbrev oIn (b:Nat) (q:Int):Nat×Obj:=(qb3 b q)
abbrev oSc (b:Nat) (x y:Value):Nat×Obj:=(b,Obj.cells #[x,y] 27 (0,0))
theorem parseC_back (wb w:World) (M:Own) (b1 b2 b3:Nat) (x y:Value) (e q0:Int) (q:Nat) (h1:wb.heap.size≤b1) (h2:wb.heap.size≤b2) (h3:wb.heap.size≤b3) (hM:∀ b∈M,wb.heap.size≤b.1) (hw:Sy wb (oSc b1 x y::oEr b2 e::oIn b3 q0::M) w) :
 CallsD Tryz.prog 33 #[.pointer (some ⟨b1,0,none⟩),.pointer (some ⟨b2,0,none⟩),.pointer (some ⟨b3,0,none⟩)] (.panicking [faultE q]) w fun e' u' w'=>e'=.returned (.tuple #[])∧settle u'=.returning∧∃ b4,wb.heap.size≤b4∧Sy wb (oFa b4 q::oSc b1 (.slice none 0 0) (.slice none 0 0)::oEr b2 8::oIn b3 q::M) w':=by
 refine callsD_rec (args:=[.pointer (some ⟨b1,0,none⟩),.pointer (some ⟨b2,0,none⟩),.pointer (some ⟨b3,0,none⟩)]) Tryz.func33 rfl Tryz.ntmps33 Tryz.results33 rfl rfl rfl (fun ev w=>rfl) (fun ev w=>rfl) rfl rfl (by omega) (by omega) (by simp) (by kernel_rfl) (.inr ⟨_,_,rfl,rfl,rfl⟩) hw ?_
 refine sp ?_
 refine Eq.mpr (px (v:=.bool true) (fun w=>by rfl) _) ?_
 refine sp ?_
 rw[Vc]
 refine sp ?_
 refine Eq.mpr (px (v:=.tuple #[.agg #[i64 q],.bool true]) (fun w=>by rfl) _) ?_
 refine sp ?_
 refine newI (fun b4 hb4 hn4=>?_)
 refine sp ?_
 refine sXa 0 rfl Siz.eq rfl rfl ?_
 refine sp ?_
 rw[Vc]
 refine sp ?_
 refine cdB (fun h=>by cases h) (fun _=>?_)
 refine sp ?_
 have hst:∀ (x y:Value) (e q0:Int),Stab wb (oFa b4 q::oSc b1 x y::oEr b2 e::oIn b3 q0::M) [oFa b4 q]:=fun x y e q0=>Stab.of (.cons_cons _ (List.nil_sublist _)) (fun b hb=>by
  simp only[qM] at hb
  rcases hb with rfl|rfl|rfl|rfl|hb
  ·exact hb4
  ·exact h1
  ·exact h2
  ·exact h3
  ·exact hM b hb)
 refine freeT [0,1,2] [3,4,5] [oFa b4 q] (by kernel_rfl) mixed (by kernel_rfl) (hst _ _ _ _) ?_
 refine sp ?_
 refine lOn Shp.eq mem0 rfl ?_
 refine sp ?_
 refine sXa 1 rfl Siz.eq rfl rfl ?_
 refine sp ?_
 refine ⟨hst _ _ _ _,sXa 2 rfl Siz.eq rfl rfl ?_⟩
 refine sp ?_
 refine ⟨hst _ _ _ _,sXa 3 rfl Siz.eq rfl rfl ?_⟩
 refine sp ?_
 exact ⟨hst _ _ _ _,fun w hw=>⟨rfl,b4,hb4,hw⟩⟩
theorem fieldC_idle (wb w:World) (L:Own) (hw:Sy wb L w) (v1 v2 v3:Value) :
 CallsD Tryz.prog 47 #[v1,v2,v3] .returning w fun e' u' w'=>e'=.returned (.tuple #[])∧u'=.returning∧Sy wb L w':=by
 refine callsD_rec (args:=[v1,v2,v3]) Tryz.func47 rfl Tryz.ntmps47 Tryz.results47 rfl rfl rfl (fun ev w=>rfl) (fun ev w=>rfl) rfl rfl (by omega) (by omega) (by simp) (by kernel_rfl) (.inl ⟨rfl,rfl,rfl⟩) hw ?_
 refine sp ?_
 refine Eq.mpr (px (v:=.bool false) (fun w=>by rfl) _) ?_
 refine sp ?_
 rw[Vc]
 refine sp ?_
 exact fun w hw=>hw
theorem fieldC_back (wb w:World) (M:Own) (b1 b2 b3:Nat) (g:Fld) (a:Option Addr) (c:Nat) (e q0:Int) (q:Nat) (h1:wb.heap.size≤b1) (h2:wb.heap.size≤b2) (h3:wb.heap.size≤b3) (hM:∀ b∈M,wb.heap.size≤b.1) (hw:Sy wb (oFi b1 g a c::oEr b2 e::oIn b3 q0::M) w) :
 CallsD Tryz.prog 47 #[.pointer (some ⟨b1,0,none⟩),.pointer (some ⟨b2,0,none⟩),.pointer (some ⟨b3,0,none⟩)] (.panicking [faultE q]) w fun e' u' w'=>e'=.returned (.tuple #[])∧settle u'=.returning∧∃ b4,wb.heap.size≤b4∧Sy wb (oFa b4 q::oFi b1 noF none 0::oEr b2 8::oIn b3 q::M) w':=by
 refine callsD_rec (args:=[.pointer (some ⟨b1,0,none⟩),.pointer (some ⟨b2,0,none⟩),.pointer (some ⟨b3,0,none⟩)]) Tryz.func47 rfl Tryz.ntmps47 Tryz.results47 rfl rfl rfl (fun ev w=>rfl) (fun ev w=>rfl) rfl rfl (by omega) (by omega) (by simp) (by kernel_rfl) (.inr ⟨_,_,rfl,rfl,rfl⟩) hw ?_
 refine sp ?_
 refine Eq.mpr (px (v:=.bool true) (fun w=>by rfl) _) ?_
 refine sp ?_
 rw[Vc]
 refine sp ?_
 refine Eq.mpr (px (v:=.tuple #[.agg #[i64 q],.bool true]) (fun w=>by rfl) _) ?_
 refine sp ?_
 refine newI (fun b4 hb4 hn4=>?_)
 refine sp ?_
 refine sXa 0 rfl Siz.eq rfl rfl ?_
 refine sp ?_
 rw[Vc]
 refine sp ?_
 refine cdB (fun h=>by cases h) (fun _=>?_)
 refine sp ?_
 have hst:∀ (o:Obj) (e q0:Int),Stab wb (oFa b4 q::(b1,o)::oEr b2 e::oIn b3 q0::M) [oFa b4 q]:=fun o e q0=>Stab.of (.cons_cons _ (List.nil_sublist _)) (fun b hb=>by
  simp only[qM] at hb
  rcases hb with rfl|rfl|rfl|rfl|hb
  ·exact hb4
  ·exact h1
  ·exact h2
  ·exact h3
  ·exact hM b hb)
 refine freeT [0,1,2] [3,4,5] [oFa b4 q] (by kernel_rfl) mixed (by kernel_rfl) (hst _ _ _) ?_
 refine sp ?_
 refine lOn Shp.eq mem0 rfl ?_
 refine sp ?_
 refine sXa 1 rfl Siz.eq rfl rfl ?_
 refine sp ?_
 refine ⟨hst _ _ _,sXa 2 rfl Siz.eq rfl rfl ?_⟩
 refine sp ?_
 refine ⟨hst _ _ _,sXa 3 rfl Siz.eq rfl rfl ?_⟩
 refine sp ?_
 exact ⟨hst _ _ _,fun w hw=>⟨rfl,b4,hb4,hw⟩⟩
def PfV (r:PF) (v:Value) (M:Own):Prop:=∃ (a:Option Addr) (c:Nat) (K:Own),v=.tuple #[.agg (r.f.cells a c).toArray,i64 r.e,i64 r.at_]∧OwF r.f K a c∧K.Sublist M
theorem pEnd_no {α β:Type} {s:List UInt8} {x:α} {y:β} {q r:Nat} (h:pEnd s x q=.no r):pEnd s y q=.no r:=by
 unfold pEnd at h ⊢
 split at h
 ·rename_i h1; rw[if_pos h1]; cases h; rfl
 ·cases h
theorem pEnd_ok {α β:Type} {s:List UInt8} {x x':α} {y:β} {q r:Nat} (h:pEnd s x q=.ok x' r):pEnd s y q=.ok y r:=by
 unfold pEnd at h ⊢
 split at h
 ·cases h
 ·rename_i h1; rw[if_neg h1]; cases h; rfl
theorem own_noF:OwF noF [] none 0:=OwS.toF (f:=noF) ((OwS_iff _ _ _ _).2 (.inl ⟨rfl,rfl,rfl,rfl⟩)) (by simp[noF,Fld.nm])
structure BqI (w0:World) (rb:Nat) (wb:World) (e:Env) (ds:List Deferred) (L:Own):Prop where
 hw:wb=w0
 hds:ds=[]
 h0:e 0=.pointer (some ⟨rb,0,none⟩)
 o:L=[]
theorem blanks_quiet (w:World) (rb:Nat) (s:List UInt8) (p:Nat) (hs:s.length≤65536) (hp:p≤s.length) (hq:blP s p=p) (hat:At w rb 0 [str s,i64 p]) :
 Calls Tryz.prog 34 #[.pointer (some ⟨rb,0,none⟩)] w (Rets w (Is (.tuple #[]))):=by
 have h1:At w rb 0 [str s]:=hat.sub 0 _ rfl
 have h2:At w rb 1 [i64 p]:=hat.sub 1 _ rfl
 refine enterB (args:=[.pointer (some ⟨rb,0,none⟩)]) Tryz.func34 rfl Tryz.ntmps34 (congrArg Array.toList Tryz.results34) (by kernel_rfl) (by simp) (Sy.refl w) ?_
 refine sp ?_
 rw[Vb]
 refine sp ?_
 refine loopW (G:=Nat) (fun _=>BqI w rb) (fun i=>i) 0 _ (fun w hw=>hw) (by kernel_rfl) ⟨rfl,rfl,rfl,rfl⟩ ?_
 rintro i wb e ds L ⟨rfl,rfl,h0,rfl⟩
 simp (disch:=omega) only[push_cast,qE,h0]
 refine drawQT (by kernel_rfl) (by kernel_rfl) mixed (by kernel_rfl) ?_
 simp (disch:=omega) only[push_cast,qE,h0]
 refine ldF Shp.eq h2 (by simp) ?_
 simp (disch:=omega) only[push_cast,qE,h0]
 refine ldF Shp.eq h1 (by simp) ?_
 simp (disch:=omega) only[push_cast,qE,h0]
 refine gT rfl (fun hlt=>?_) (fun hge=>?_)
 ·simp (disch:=omega) only[push_cast,qE,h0]
  refine ldF Shp.eq h1 (by simp) ?_
  simp (disch:=omega) only[push_cast,qE,h0]
  refine ldF Shp.eq h2 (by simp) ?_
  simp (disch:=omega) only[push_cast,qE,h0]
  refine qcallV en_71 (qcallX_is _ (fun w' hw'=>indexByte_walk w' [32,9,10] (s.getD p 0)) ?_)
  simp (disch:=omega) only[push_cast,qE,h0]
  rw[Vc]
  simp (disch:=omega) only[push_cast,qE,h0]
  have hat:=getD_at (s:=s) (i:=p) (by omega)
  refine cdD (fun hb=>?_) (fun hb=>?_)
  ·have hb2:=(blank_index _).1 hb
   have:=runP_step hat hb2
   have h3:p+1≤blP s (p+1):=runP_ge _ _ _
   unfold blP at hq h3
   omega
  ·simp (disch:=omega) only[push_cast,qE,h0]
   exact fun w' hw'=>⟨_,rfl,hw',rfl⟩
 ·simp (disch:=omega) only[push_cast,qE,h0]
  rw[Vc]
  simp (disch:=omega) only[push_cast,qE,h0]
  exact fun w' hw'=>⟨_,rfl,hw',rfl⟩
theorem is_quiet (w:World) (rb:Nat) (s:List UInt8) (p:Nat) (c:UInt8) (ci:Int) (hc:ci=c.toNat) (hs:s.length≤65536) (hp:p≤s.length) (hq:blP s p=p) (hat:At w rb 0 [str s,i64 p]) :
 Calls Tryz.prog 35 #[.pointer (some ⟨rb,0,none⟩),.int .u8 ci] w (Rets w (Is (.bool (decide (s[p]?=some c))))):=by
 subst hc
 have h1:At w rb 0 [str s]:=hat.sub 0 _ rfl
 have h2:At w rb 1 [i64 p]:=hat.sub 1 _ rfl
 refine enterB (args:=[.pointer (some ⟨rb,0,none⟩),.int .u8 (c.toNat:Int)]) Tryz.func35 rfl Tryz.ntmps35 (congrArg Array.toList Tryz.results35) (by kernel_rfl) (by simp) (Sy.refl w) ?_
 refine sp ?_
 refine callV en_34 (cIs (fun w' hw'=>blanks_quiet w' rb s p hs hp hq (hat.of_block (hw'.rest _ hat.lt (by simp)))) ?_)
 refine sp ?_
 refine drawQT (by kernel_rfl) (by kernel_rfl) mixed (by kernel_rfl) ?_
 refine sp ?_
 refine ldF Shp.eq h2 (by simp) ?_
 refine sp ?_
 refine ldF Shp.eq h1 (by simp) ?_
 refine sp ?_
 refine gT rfl (fun hlt=>?_) (fun hge=>?_)
 ·refine sp ?_
  refine ldF Shp.eq h1 (by simp) ?_
  refine sp ?_
  refine ldF Shp.eq h2 (by simp) ?_
  refine sp ?_
  have hg:=get_iff (s:=s) (q:=p) (c:=c) (by omega)
  refine fun w' hw'=>⟨_,rfl,hw',?_⟩
  simp only[hg]
 ·refine sp ?_
  refine fun w' hw'=>⟨_,rfl,hw',?_⟩
  have hn:=get_none (s:=s) (q:=p) (c:=c) (by omega)
  simp[hn]
end Go.Proofs.YtdmdgkpjjpijdaaGreatDoor
