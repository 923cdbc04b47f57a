/- YtilejcofleeeiaaGreatDoor: walks, part 25: the reference's: the first thing that is wrong with a schema. -/
import Derived.Test.YtilejcofleeeiaaGreatDoorW21
import Derived.Test.YtilejcofleeeiaaGreatDoorW24
import Derived.Test.YtilejcofleeeiaaGreatDoorW84
namespace Go.Proofs.YtilejcofleeeiaaGreatDoor
open Go Go.K
open Nat renaming reduceEqDiff → qE
open Go.Value renaming oneCell' → qC
open List renaming getElem?_eq_getElem → qH
set_option maxRecDepth 100000
set_option linter.unusedVariables false
set_option linter.unusedSimpArgs false
set_option maxHeartbeats 4000000
theorem wrongAt_take {ns:List FNode} {k:Nat} (hk:k < 257):wrongAt (ns.take 257) k=wrongAt ns k:=by
 unfold wrongAt
 rw[List.getElem?_take,if_pos hk,List.take_take,Nat.min_eq_left (by omega)]
structure NotesRI (w0:World) (b1 b2:Nat) (a:Option Addr) (l:List Fld) (c:Nat) (na:Option Addr) (nt:List NoteT) (nc:Nat) (i:Nat) (wb:World) (e:Env) (ds:List Deferred) (L:Own):Prop where
 hw:wb=w0
 d:ds=[]
 o:L=[(qb6 b2),(qb5 b1 a l.length c na nt.length nc)]
 il:i≤nt.length
 no:∀ j n,j < i→nt[j]?=some n→longNote n=false
 h1:e 1=.pointer (some ⟨b1,0,none⟩)
 h2:e 2=.pointer (some ⟨b2,0,none⟩)
 h19:e 19=.slice na nt.length nc
 h20:e 20=i64 nt.length
 h21:e 21=i64 i
structure ChkRI (w0:World) (b2:Nat) (o1 o2:Nat×Obj) (ns:List FNode) (va:Option Addr) (vc:Nat) (rest:Own) (i:Nat) (wb:World) (e:Env) (ds:List Deferred) (L:Own):Prop where
 hw:wb=w0
 hds:ds=[]
 o:L=o2::o1::rest
 il:i≤ns.length
 no:∀ j,j < i→wrongAt ns j=0
 h2:e 2=.pointer (some ⟨b2,0,none⟩)
 h5:e 5=.slice va ns.length vc
 h43:e 43=i64 ns.length
 h44:e 44=i64 i
theorem take_sub {α:Type} (cs:List α) (N o m:Nat) (h:o+m≤N):((cs.take N).drop o).take m=(cs.drop o).take m:=by
 rw[List.drop_take,List.take_take,Nat.min_eq_left (by omega)]
theorem NodesC.reads {wb w':World} {lo:Nat} {A L:Own} {ns:List FNode} {xs cs:List Value} {rb:Nat} (hno:NodesC wb lo A ns xs) (hlo:lo≤wb.heap.size) (hw':Sy wb L w') (hL:∀ p∈L,wb.heap.size≤p.1) (hm:(rb,.cells cs.toArray 165 (0,0))∈L) (hcs:cs.take (ns.length * 10)=xs):NodesW w' lo rb ns:=fun j y hy=>by
 obtain ⟨cj,hcj,htk⟩:=hno.get j hy
 have hjl:=(List.getElem?_eq_some_iff.1 hy).1
 have hl10:=hcj.len
 refine ⟨cj,⟨cs.toArray,_,_,hw'.own rb _ hm,?_⟩,?_⟩
 ·rw[hl10,← htk,← hcs,take_sub _ _ _ _ (by omega)]
 ·obtain ⟨pb,fa,aa,fc,ac,h1,h2,h3,h4,h5,h6,h7,h8,h9,h10,h11⟩:=hcj
  exact ⟨some ⟨pb,0,none⟩,fa,aa,y.path.length,fc,ac,h1,h5.sy hlo hw' (fun p hp=>Nat.le_trans hlo (hL p hp)),h6,h8,h9.sy hlo hw' (fun p hp=>Nat.le_trans hlo (hL p hp)),h10,h11⟩
theorem checkR_walk (w:World) (lo:Nat) (hlo:lo≤w.heap.size) (l:List Fld) (a:Option Addr) (c:Nat) (hr:Rd w lo a l) (hc:l.length≤c) (hc2:c≤9223372036854775807)
 (nt:List NoteT) (na:Option Addr) (nc:Nat) (hn:RdN w lo na nt) (hnc:nt.length≤nc) (hnc2:nc≤9223372036854775807) :
 Calls Tryz.prog 90 #[.agg #[.slice a l.length c,.slice na nt.length nc]] w (RetsN w (fun v M=>wrongFault v M (checkP l nt))):=by
 refine enterT (args:=[.agg #[.slice a l.length c,.slice na nt.length nc]]) Tryz.func90 rfl Tryz.ntmps90 (congrArg Array.toList Tryz.results90) (by kernel_rfl) (by simp) (Sy.refl w) ?_
 refine sp ?_
 refine newI (fun b1 hb1 hn1=>?_)
 refine sp ?_
 refine newI (fun b2 hb2 hn2=>?_)
 have hL:∀ fl:Array Value,∀ p∈[(b2,Obj.cells fl 85 (0,0)),(qb5 b1 a l.length c na nt.length nc)],w.heap.size≤p.1:=by
  intro fl p hp
  simp only[List.mem_cons,List.mem_nil_iff,or_false] at hp
  rcases hp with rfl|rfl<;>assumption
 refine sp ?_
 repeat' (first|((first|refine gT rfl (fun h=>?_) (fun h=>?_)|refine gF rfl (fun h=>?_) (fun h=>?_)|refine cdD (fun h=>?_) (fun h=>?_)|(refine gbT rfl (fun h=>?_) (fun h=>?_)<;>(try subst h))|(refine gbF rfl (fun h=>?_) (fun h=>?_)<;>(try subst h))|(refine cdB (fun h=>?_) (fun h=>?_)<;>(try subst h))|refine lOn Shp.eq (by (first|exact mem0|exact mem1|exact mem2|exact mem3|exact mem4|exact mem5)) rfl ?_|refine lAg Shp.eq (by (first|exact mem0|exact mem1|exact mem2|exact mem3|exact mem4|exact mem5)) rfl rfl ?_|refine newI (fun b hb hn=>?_)|refine stX 0 rfl Siz.eq rfl rfl (by simp[qC]) (by simp) ?_|refine stX 1 rfl Siz.eq rfl rfl (by simp[qC]) (by simp) ?_|refine stX 2 rfl Siz.eq rfl rfl (by simp[qC]) (by simp) ?_|refine stX 3 rfl Siz.eq rfl rfl (by simp[qC]) (by simp) ?_|refine stX 4 rfl Siz.eq rfl rfl (by simp[qC]) (by simp) ?_|refine stX 5 rfl Siz.eq rfl rfl (by simp[qC]) (by simp) ?_|refine stX 6 rfl Siz.eq rfl rfl (by simp[qC]) (by simp) ?_)<;>simp (disch:=omega) only[push_cast,qE]))
 rw[Vc]
 refine sp ?_
 refine cdD (fun c1=>?_) (fun c1=>?_)
 ·refine sp ?_
  repeat' (first|((first|refine gT rfl (fun h=>?_) (fun h=>?_)|refine gF rfl (fun h=>?_) (fun h=>?_)|refine cdD (fun h=>?_) (fun h=>?_)|(refine gbT rfl (fun h=>?_) (fun h=>?_)<;>(try subst h))|(refine gbF rfl (fun h=>?_) (fun h=>?_)<;>(try subst h))|(refine cdB (fun h=>?_) (fun h=>?_)<;>(try subst h))|refine lOn Shp.eq (by (first|exact mem0|exact mem1|exact mem2|exact mem3|exact mem4|exact mem5)) rfl ?_|refine lAg Shp.eq (by (first|exact mem0|exact mem1|exact mem2|exact mem3|exact mem4|exact mem5)) rfl rfl ?_|refine newI (fun b hb hn=>?_)|refine stX 0 rfl Siz.eq rfl rfl (by simp[qC]) (by simp) ?_|refine stX 1 rfl Siz.eq rfl rfl (by simp[qC]) (by simp) ?_|refine stX 2 rfl Siz.eq rfl rfl (by simp[qC]) (by simp) ?_|refine stX 3 rfl Siz.eq rfl rfl (by simp[qC]) (by simp) ?_|refine stX 4 rfl Siz.eq rfl rfl (by simp[qC]) (by simp) ?_|refine stX 5 rfl Siz.eq rfl rfl (by simp[qC]) (by simp) ?_|refine stX 6 rfl Siz.eq rfl rfl (by simp[qC]) (by simp) ?_)<;>simp (disch:=omega) only[push_cast,qE]))
  exact fun w' hw'=>⟨_,[],rfl,hw'.end (hL _),by simp,by unfold checkP; rw[if_pos (by omega)]; exact ⟨none,0,rfl,⟨rfl,.inl ⟨rfl,rfl⟩⟩,fun _=>⟨rfl,rfl⟩⟩⟩
 refine sp ?_
 repeat' (first|((first|refine gT rfl (fun h=>?_) (fun h=>?_)|refine gF rfl (fun h=>?_) (fun h=>?_)|refine cdD (fun h=>?_) (fun h=>?_)|(refine gbT rfl (fun h=>?_) (fun h=>?_)<;>(try subst h))|(refine gbF rfl (fun h=>?_) (fun h=>?_)<;>(try subst h))|(refine cdB (fun h=>?_) (fun h=>?_)<;>(try subst h))|refine lOn Shp.eq (by (first|exact mem0|exact mem1|exact mem2|exact mem3|exact mem4|exact mem5)) rfl ?_|refine lAg Shp.eq (by (first|exact mem0|exact mem1|exact mem2|exact mem3|exact mem4|exact mem5)) rfl rfl ?_|refine newI (fun b hb hn=>?_)|refine stX 0 rfl Siz.eq rfl rfl (by simp[qC]) (by simp) ?_|refine stX 1 rfl Siz.eq rfl rfl (by simp[qC]) (by simp) ?_|refine stX 2 rfl Siz.eq rfl rfl (by simp[qC]) (by simp) ?_|refine stX 3 rfl Siz.eq rfl rfl (by simp[qC]) (by simp) ?_|refine stX 4 rfl Siz.eq rfl rfl (by simp[qC]) (by simp) ?_|refine stX 5 rfl Siz.eq rfl rfl (by simp[qC]) (by simp) ?_|refine stX 6 rfl Siz.eq rfl rfl (by simp[qC]) (by simp) ?_)<;>simp (disch:=omega) only[push_cast,qE]))
 rw[Vc]
 refine sp ?_
 refine cdD (fun c2=>?_) (fun c2=>?_)
 ·refine sp ?_
  repeat' (first|((first|refine gT rfl (fun h=>?_) (fun h=>?_)|refine gF rfl (fun h=>?_) (fun h=>?_)|refine cdD (fun h=>?_) (fun h=>?_)|(refine gbT rfl (fun h=>?_) (fun h=>?_)<;>(try subst h))|(refine gbF rfl (fun h=>?_) (fun h=>?_)<;>(try subst h))|(refine cdB (fun h=>?_) (fun h=>?_)<;>(try subst h))|refine lOn Shp.eq (by (first|exact mem0|exact mem1|exact mem2|exact mem3|exact mem4|exact mem5)) rfl ?_|refine lAg Shp.eq (by (first|exact mem0|exact mem1|exact mem2|exact mem3|exact mem4|exact mem5)) rfl rfl ?_|refine newI (fun b hb hn=>?_)|refine stX 0 rfl Siz.eq rfl rfl (by simp[qC]) (by simp) ?_|refine stX 1 rfl Siz.eq rfl rfl (by simp[qC]) (by simp) ?_|refine stX 2 rfl Siz.eq rfl rfl (by simp[qC]) (by simp) ?_|refine stX 3 rfl Siz.eq rfl rfl (by simp[qC]) (by simp) ?_|refine stX 4 rfl Siz.eq rfl rfl (by simp[qC]) (by simp) ?_|refine stX 5 rfl Siz.eq rfl rfl (by simp[qC]) (by simp) ?_|refine stX 6 rfl Siz.eq rfl rfl (by simp[qC]) (by simp) ?_)<;>simp (disch:=omega) only[push_cast,qE]))
  exact fun w' hw'=>⟨_,[],rfl,hw'.end (hL _),by simp,by unfold checkP; rw[if_neg (by omega),if_pos (by omega)]; exact ⟨none,0,rfl,⟨rfl,.inl ⟨rfl,rfl⟩⟩,fun _=>⟨rfl,rfl⟩⟩⟩
 refine sp ?_
 repeat' (first|((first|refine gT rfl (fun h=>?_) (fun h=>?_)|refine gF rfl (fun h=>?_) (fun h=>?_)|refine cdD (fun h=>?_) (fun h=>?_)|(refine gbT rfl (fun h=>?_) (fun h=>?_)<;>(try subst h))|(refine gbF rfl (fun h=>?_) (fun h=>?_)<;>(try subst h))|(refine cdB (fun h=>?_) (fun h=>?_)<;>(try subst h))|refine lOn Shp.eq (by (first|exact mem0|exact mem1|exact mem2|exact mem3|exact mem4|exact mem5)) rfl ?_|refine lAg Shp.eq (by (first|exact mem0|exact mem1|exact mem2|exact mem3|exact mem4|exact mem5)) rfl rfl ?_|refine newI (fun b hb hn=>?_)|refine stX 0 rfl Siz.eq rfl rfl (by simp[qC]) (by simp) ?_|refine stX 1 rfl Siz.eq rfl rfl (by simp[qC]) (by simp) ?_|refine stX 2 rfl Siz.eq rfl rfl (by simp[qC]) (by simp) ?_|refine stX 3 rfl Siz.eq rfl rfl (by simp[qC]) (by simp) ?_|refine stX 4 rfl Siz.eq rfl rfl (by simp[qC]) (by simp) ?_|refine stX 5 rfl Siz.eq rfl rfl (by simp[qC]) (by simp) ?_|refine stX 6 rfl Siz.eq rfl rfl (by simp[qC]) (by simp) ?_)<;>simp (disch:=omega) only[push_cast,qE]))
 rw[Vb]
 refine sp ?_
 refine loopW (G:=Nat) (NotesRI w b1 b2 a l c na nt nc) (fun i=>nt.length - i) 0 _ (fun w hw=>hw) (by kernel_rfl) ⟨rfl,rfl,rfl,by omega,by omega,rfl,rfl,rfl,rfl,rfl⟩ ?_
 rintro i wb e ds L ⟨rfl,rfl,rfl,hil,hno,h1,h2,h19,h20,h21⟩
 simp (disch:=omega) only[push_cast,qE,h1,h2,h19,h20,h21]
 rw[Vc]
 simp (disch:=omega) only[push_cast,qE,h1,h2,h19,h20,h21]
 refine cdD (fun hlt=>?_) (fun hge=>?_)
 ·obtain ⟨n,hnn⟩:∃ n,nt[i]?=some n:=⟨_,qH (by omega)⟩
  rcases hn with rfl|⟨nb,noff,rfl,hnb,hn⟩
  ·simp at hnn
  obtain ⟨y1,y2,y3⟩:=hn i n hnn
  simp (disch:=omega) only[push_cast,qE,h1,h2,h19,h20,h21]
  rw[Vb]
  simp (disch:=omega) only[push_cast,qE,h1,h2,h19,h20,h21]
  refine ldAggF sh_139 y3 rfl (out_of (fun p hp=>Nat.lt_of_lt_of_le (Nat.lt_of_lt_of_le hnb hlo) (hL _ p hp))) ?_
  simp (disch:=omega) only[push_cast,qE,h1,h2,h19,h20,h21]
  refine newI (fun bn hbn hnn2=>?_)
  have hL3:∀ fl:Array Value,∀ p∈[(bn,Obj.cells #[str n.1,str n.2] 139 (0,0)),(b2,Obj.cells fl 85 (0,0)),(b1,Obj.cells #[.slice a l.length c,.slice (some ⟨nb,noff,none⟩) nt.length nc] 114 (0,0))],wb.heap.size≤p.1:=by
   intro fl p hp
   rcases List.mem_cons.1 hp with rfl|hp
   ·assumption
   ·exact hL fl p hp
  simp (disch:=omega) only[push_cast,qE,h1,h2,h19,h20,h21]
  repeat' (first|((first|refine gT rfl (fun h=>?_) (fun h=>?_)|refine gF rfl (fun h=>?_) (fun h=>?_)|refine cdD (fun h=>?_) (fun h=>?_)|(refine gbT rfl (fun h=>?_) (fun h=>?_)<;>(try subst h))|(refine gbF rfl (fun h=>?_) (fun h=>?_)<;>(try subst h))|(refine cdB (fun h=>?_) (fun h=>?_)<;>(try subst h))|refine lOn Shp.eq (by (first|exact mem0|exact mem1|exact mem2|exact mem3|exact mem4|exact mem5)) rfl ?_|refine lAg Shp.eq (by (first|exact mem0|exact mem1|exact mem2|exact mem3|exact mem4|exact mem5)) rfl rfl ?_|refine newI (fun b hb hn=>?_)|refine stX 0 rfl Siz.eq rfl rfl (by simp[qC]) (by simp) ?_|refine stX 1 rfl Siz.eq rfl rfl (by simp[qC]) (by simp) ?_|refine stX 2 rfl Siz.eq rfl rfl (by simp[qC]) (by simp) ?_|refine stX 3 rfl Siz.eq rfl rfl (by simp[qC]) (by simp) ?_|refine stX 4 rfl Siz.eq rfl rfl (by simp[qC]) (by simp) ?_|refine stX 5 rfl Siz.eq rfl rfl (by simp[qC]) (by simp) ?_|refine stX 6 rfl Siz.eq rfl rfl (by simp[qC]) (by simp) ?_)<;>simp (disch:=omega) only[push_cast,qE,h1,h2,h19,h20,h21]))
  all_goals (rw[Vc]; simp (disch:=omega) only[push_cast,qE,h1,h2,h19,h20,h21])
  ·refine cdD (fun hb2=>?_) (fun hb2=>?_)
   ·simp (disch:=omega) only[push_cast,qE,h1,h2,h19,h20,h21]
    repeat' (first|((first|refine gT rfl (fun h=>?_) (fun h=>?_)|refine gF rfl (fun h=>?_) (fun h=>?_)|refine cdD (fun h=>?_) (fun h=>?_)|(refine gbT rfl (fun h=>?_) (fun h=>?_)<;>(try subst h))|(refine gbF rfl (fun h=>?_) (fun h=>?_)<;>(try subst h))|(refine cdB (fun h=>?_) (fun h=>?_)<;>(try subst h))|refine lOn Shp.eq (by (first|exact mem0|exact mem1|exact mem2|exact mem3|exact mem4|exact mem5)) rfl ?_|refine lAg Shp.eq (by (first|exact mem0|exact mem1|exact mem2|exact mem3|exact mem4|exact mem5)) rfl rfl ?_|refine newI (fun b hb hn=>?_)|refine stX 0 rfl Siz.eq rfl rfl (by simp[qC]) (by simp) ?_|refine stX 1 rfl Siz.eq rfl rfl (by simp[qC]) (by simp) ?_|refine stX 2 rfl Siz.eq rfl rfl (by simp[qC]) (by simp) ?_|refine stX 3 rfl Siz.eq rfl rfl (by simp[qC]) (by simp) ?_|refine stX 4 rfl Siz.eq rfl rfl (by simp[qC]) (by simp) ?_|refine stX 5 rfl Siz.eq rfl rfl (by simp[qC]) (by simp) ?_|refine stX 6 rfl Siz.eq rfl rfl (by simp[qC]) (by simp) ?_)<;>simp (disch:=omega) only[push_cast,qE,h1,h2,h19,h20,h21]))
    refine fun w' hw'=>⟨_,[],rfl,hw'.end (hL3 _),by simp,?_⟩
    have:checkP l nt=((37:Int),([]:List Nat),(i:Int)):=by
     unfold checkP
     rw[if_neg (by omega),if_neg (by omega),note_at hno hnn (by simp only[longNote,Bool.or_eq_true,decide_eq_true_eq]; omega)]
    rw[this]
    exact ⟨none,0,rfl,⟨rfl,.inl ⟨rfl,rfl⟩⟩,fun _=>⟨rfl,rfl⟩⟩
   ·simp (disch:=omega) only[push_cast,qE,h1,h2,h19,h20,h21]
    exact ⟨i+1,_,fun w hw=>hw.mid [] [(bn,Obj.cells #[str n.1,str n.2] 139 (0,0))] (fun p hp=>by rw[List.mem_singleton.1 hp]; exact hbn),⟨rfl,rfl,rfl,by omega,fun j m hj hm=>by
     rcases Nat.lt_or_ge j i with h5|h5
     ·exact hno j m h5 hm
     ·obtain rfl:j=i:=by omega
      rw[hnn] at hm
      cases hm
      simp only[longNote,Bool.or_eq_false_iff,decide_eq_false_iff_not]
      omega,h1,h2,h19,h20,uu⟩,by omega⟩
  ·repeat' (first|((first|refine gT rfl (fun h=>?_) (fun h=>?_)|refine gF rfl (fun h=>?_) (fun h=>?_)|refine cdD (fun h=>?_) (fun h=>?_)|(refine gbT rfl (fun h=>?_) (fun h=>?_)<;>(try subst h))|(refine gbF rfl (fun h=>?_) (fun h=>?_)<;>(try subst h))|(refine cdB (fun h=>?_) (fun h=>?_)<;>(try subst h))|refine lOn Shp.eq (by (first|exact mem0|exact mem1|exact mem2|exact mem3|exact mem4|exact mem5)) rfl ?_|refine lAg Shp.eq (by (first|exact mem0|exact mem1|exact mem2|exact mem3|exact mem4|exact mem5)) rfl rfl ?_|refine newI (fun b hb hn=>?_)|refine stX 0 rfl Siz.eq rfl rfl (by simp[qC]) (by simp) ?_|refine stX 1 rfl Siz.eq rfl rfl (by simp[qC]) (by simp) ?_|refine stX 2 rfl Siz.eq rfl rfl (by simp[qC]) (by simp) ?_|refine stX 3 rfl Siz.eq rfl rfl (by simp[qC]) (by simp) ?_|refine stX 4 rfl Siz.eq rfl rfl (by simp[qC]) (by simp) ?_|refine stX 5 rfl Siz.eq rfl rfl (by simp[qC]) (by simp) ?_|refine stX 6 rfl Siz.eq rfl rfl (by simp[qC]) (by simp) ?_)<;>simp (disch:=omega) only[push_cast,qE,h1,h2,h19,h20,h21]))
   refine fun w' hw'=>⟨_,[],rfl,hw'.end (hL3 _),by simp,?_⟩
   have:checkP l nt=((37:Int),([]:List Nat),(i:Int)):=by
    unfold checkP
    rw[if_neg (by omega),if_neg (by omega),note_at hno hnn (by simp only[longNote,Bool.or_eq_true,decide_eq_true_eq]; omega)]
   rw[this]
   exact ⟨none,0,rfl,⟨rfl,.inl ⟨rfl,rfl⟩⟩,fun _=>⟨rfl,rfl⟩⟩
 ·obtain rfl:i=nt.length:=by omega
  have hnone:nt.findIdx? longNote=none:=by
   rw[List.findIdx?_eq_none_iff]
   intro x hx
   obtain ⟨j,hj⟩:=List.mem_iff_getElem?.1 hx
   exact hno j x (List.getElem?_eq_some_iff.1 hj).1 hj
  simp (disch:=omega) only[push_cast,qE,h1,h2,h19,h20,h21]
  have hdone:∀ r:Int×List Nat×Int,r=((faultN (nd 65 [] false l)).1,(faultN (nd 65 [] false l)).2,0)→checkP l nt=r:=fun r hr=>by
   rw[hr]
   unfold checkP
   rw[if_neg (by omega),if_neg (by omega),hnone]
  repeat' (first|((first|refine gT rfl (fun h=>?_) (fun h=>?_)|refine gF rfl (fun h=>?_) (fun h=>?_)|refine cdD (fun h=>?_) (fun h=>?_)|(refine gbT rfl (fun h=>?_) (fun h=>?_)<;>(try subst h))|(refine gbF rfl (fun h=>?_) (fun h=>?_)<;>(try subst h))|(refine cdB (fun h=>?_) (fun h=>?_)<;>(try subst h))|refine lOn Shp.eq (by (first|exact mem0|exact mem1|exact mem2|exact mem3|exact mem4|exact mem5)) rfl ?_|refine lAg Shp.eq (by (first|exact mem0|exact mem1|exact mem2|exact mem3|exact mem4|exact mem5)) rfl rfl ?_|refine newI (fun b hb hn=>?_)|refine stX 0 rfl Siz.eq rfl rfl (by simp[qC]) (by simp) ?_|refine stX 1 rfl Siz.eq rfl rfl (by simp[qC]) (by simp) ?_|refine stX 2 rfl Siz.eq rfl rfl (by simp[qC]) (by simp) ?_|refine stX 3 rfl Siz.eq rfl rfl (by simp[qC]) (by simp) ?_|refine stX 4 rfl Siz.eq rfl rfl (by simp[qC]) (by simp) ?_|refine stX 5 rfl Siz.eq rfl rfl (by simp[qC]) (by simp) ?_|refine stX 6 rfl Siz.eq rfl rfl (by simp[qC]) (by simp) ?_)<;>simp (disch:=omega) only[push_cast,qE,h1,h2,h19,h20,h21]))
  refine callV en_122 (callX_own (fun w' hw'=>grow_ok 64 wb w' _ [] _ lo (.slice none 0 0) [] [] [] (.slice none 0 0) l a c false hw' hlo (hL _) ⟨rfl,.inl ⟨rfl,rfl,rfl⟩⟩ rfl (by simp) ⟨rfl,.inl ⟨rfl,rfl⟩⟩ rfl hr hc hc2) (fun v' L' hS=>?_))
  obtain ⟨A,xs,hro,hno,hA,_⟩:=hS
  rw[List.nil_append] at hro hno
  generalize hns:(nd 65 [] false l).take 257=ns at hro hno
  obtain ⟨va,vc,rfl⟩:=hro.is_slice
  simp (disch:=omega) only[push_cast,qE,h1,h2]
  rw[Vb]
  simp (disch:=omega) only[push_cast,qE,h1,h2]
  have hnl:ns.length≤257:=by rw[← hns]; exact List.length_take_le _ _
  have hwn:∀ k,k < 257→wrongAt ns k=wrongAt (nd 65 [] false l) k:=fun k hk=>by rw[← hns]; exact wrongAt_take hk
  obtain ⟨rest,hAr,hrb,hperm,hrow⟩:∃ rest:Own,(∀ p∈A,p∈rest)∧(∀ p∈rest,wb.heap.size≤p.1)∧(∀ w,Sy wb L' w→Sy wb ((qb6 b2)::(qb5 b1 a l.length c na nt.length nc)::rest) w)∧(ns≠[]→∃ (rb:Nat) (cs:List Value),va=some ⟨rb,0,none⟩∧(rb,Obj.cells cs.toArray 165 (0,0))∈rest∧cs.take (ns.length * 10)=xs∧ns.length≤vc):=by
   obtain ⟨hxl,⟨h1,h2,h3⟩|⟨rb,cap,cs,h1,h2,h3,h4,h5,h6,h7⟩⟩:=hro
   ·exact ⟨A,fun p hp=>hp,hA,fun w hw=>by rw[h3] at hw; exact hw.perm List.perm_append_comm,fun h=>absurd (List.eq_nil_of_length_eq_zero h2) h⟩
   ·injection h1 with q1 q2 q3
    refine ⟨(rb,Obj.cells cs.toArray 165 (0,0))::A,fun p hp=>.tail _ hp,fun p hp=>?_,fun w hw=>?_,fun _=>⟨rb,cs,q1,.head _,h7,by omega⟩⟩
    ·rcases List.mem_cons.1 hp with rfl|hp
     ·exact h3
     ·exact hA p hp
    ·rw[h2] at hw
     exact hw.perm (List.perm_append_comm (l₁:=(rb,Obj.cells cs.toArray 165 (0,0))::A) (l₂:=[(qb6 b2),(qb5 b1 a l.length c na nt.length nc)]))
  have hLr:∀ x,∀ p∈((b2,(x:Obj))::(qb5 b1 a l.length c na nt.length nc)::rest),wb.heap.size≤p.1:=fun x p hp=>by
   simp only[List.mem_cons] at hp
   rcases hp with rfl|rfl|hp
   ·exact hb2
   ·exact hb1
   ·exact hrb p hp
  refine loopW (G:=Nat) (ChkRI wb b2 (qb5 b1 a l.length c na nt.length nc) (qb6 b2) ns va vc rest) (fun i=>ns.length - i) 0 _ hperm (by kernel_rfl) ⟨rfl,rfl,rfl,by omega,by omega,h2,rfl,rfl,rfl⟩ ?_
  clear h1 h2 h19 h20 h21 e hro
  rintro i wb e ds L ⟨rfl,rfl,rfl,hil,hz,h2,h5,h43,h44⟩
  simp (disch:=omega) only[push_cast,qE,h2,h5,h43,h44]
  rw[Vc]
  simp (disch:=omega) only[push_cast,qE,h2,h5,h43,h44]
  refine cdD (fun hlt=>?_) (fun hge=>?_)
  ·obtain ⟨x,hx⟩:∃ x,ns[i]?=some x:=⟨_,qH (by omega)⟩
   obtain ⟨rb,cs,rfl,hrm,hcs,hvc⟩:=hrow (fun h=>by rw[h] at hx; simp at hx)
   have hwr:wrongAt ns i=wrongN x.path.length x.ah x.f x.ind i (idsOf (ns.take i)):=by unfold wrongAt; rw[hx]
   simp (disch:=omega) only[push_cast,qE,h2,h5,h43,h44]
   rw[Vb]
   simp (disch:=omega) only[push_cast,qE,h2,h5,h43,h44]
   refine callV en_123 (cIs (fun w' hw'=>wrongR_walk w' lo (Nat.le_trans hlo hw'.size) rb vc ns (hno.reads hlo hw' (hLr _) (.tail _ (.tail _ hrm)) hcs) hvc (by omega) i x hx) ?_)
   rw[← hwr]
   simp (disch:=omega) only[push_cast,qE,h2,h5,h43,h44]
   rw[Vc]
   simp (disch:=omega) only[push_cast,qE,h2,h5,h43,h44]
   refine cdD (fun hne0=>?_) (fun heq0=>?_)
   ·obtain ⟨ci,hci,htk⟩:=hno.get i hx
    obtain ⟨pb,fa,aa,fc,ac,rfl,hpm,hpb,hp65,_⟩:=hci
    have hcell:cs[i * 10]?=some (.slice (some ⟨pb,0,none⟩) x.path.length x.path.length):=by
     have h9:=congrArg (·[0]?) htk
     rw[← hcs,take_sub _ _ _ _ (by omega)] at h9
     simpa [List.getElem?_take,List.getElem?_drop] using h9
    have hpa:pathAt (nd 65 [] false l) i=x.path:=by
     have:(nd 65 [] false l)[i]?=some x:=by
      rw[← hns,List.getElem?_take,if_pos (by omega)] at hx
      exact hx
     unfold pathAt; rw[this]
    have hres:checkP l nt=(wrongAt ns i,x.path,(0:Int)):=hdone _ (by
     have hil2:i < (nd 65 [] false l).length:=by
      have:=(List.getElem?_eq_some_iff.1 hx).1
      rw[← hns,List.length_take] at this
      omega
     rw[hwn i (by omega)] at hne0 ⊢
     have hf:firstWrong (nd 65 [] false l)=some i:=firstWrong_at hil2 (fun j hj=>by rw[← hwn j (by omega)]; exact hz j hj) hne0
     simp only[faultN,hf,hpa])
    simp (disch:=omega) only[push_cast,qE,h2,h5,h43,h44]
    refine lOn sh_76 (.tail _ (.tail _ hrm)) (un hcell) ?_
    simp (disch:=omega) only[push_cast,qE,h2,h5,h43,h44]
    repeat' (first|((first|refine gT rfl (fun h=>?_) (fun h=>?_)|refine gF rfl (fun h=>?_) (fun h=>?_)|refine cdD (fun h=>?_) (fun h=>?_)|(refine gbT rfl (fun h=>?_) (fun h=>?_)<;>(try subst h))|(refine gbF rfl (fun h=>?_) (fun h=>?_)<;>(try subst h))|(refine cdB (fun h=>?_) (fun h=>?_)<;>(try subst h))|refine lOn Shp.eq (by (first|exact mem0|exact mem1|exact mem2|exact mem3|exact mem4|exact mem5)) rfl ?_|refine lAg Shp.eq (by (first|exact mem0|exact mem1|exact mem2|exact mem3|exact mem4|exact mem5)) rfl rfl ?_|refine newI (fun b hb hn=>?_)|refine stX 0 rfl Siz.eq rfl rfl (by simp[qC]) (by simp) ?_|refine stX 1 rfl Siz.eq rfl rfl (by simp[qC]) (by simp) ?_|refine stX 2 rfl Siz.eq rfl rfl (by simp[qC]) (by simp) ?_|refine stX 3 rfl Siz.eq rfl rfl (by simp[qC]) (by simp) ?_|refine stX 4 rfl Siz.eq rfl rfl (by simp[qC]) (by simp) ?_|refine stX 5 rfl Siz.eq rfl rfl (by simp[qC]) (by simp) ?_|refine stX 6 rfl Siz.eq rfl rfl (by simp[qC]) (by simp) ?_)<;>simp (disch:=omega) only[push_cast,qE,h2,h5,h43,h44]))
    have hpne:x.path≠[]:=by
     rw[← hpa]
     refine pathAt_ne ?_
     have:=(List.getElem?_eq_some_iff.1 hx).1
     rw[← hns,List.length_take] at this
     omega
    exact fun w' hw'=>⟨_,[(pb,Obj.cells (ints x.path).toArray 3 (0,0))],rfl,hw'.drop (List.singleton_sublist.2 (.tail _ (.tail _ (hAr _ hpm)))) (fun p hp=>.inr (hLr _ p hp)),un hpb,by
     rw[hres]
     exact ⟨some ⟨pb,0,none⟩,x.path.length,rfl,⟨by simp[ints],.inr ⟨pb,x.path.length,ints x.path,rfl,.head _,Nat.le_refl _,by simp only[maxLen]; omega,by simp[ints],List.take_of_length_le (by simp[ints])⟩⟩,fun h=>absurd h hpne⟩⟩
   ·simp (disch:=omega) only[push_cast,qE,h2,h5,h43,h44]
    refine ⟨i+1,_,fun w hw=>hw,⟨rfl,rfl,rfl,by omega,fun j hj=>?_,h2,h5,h43,uu⟩,by omega⟩
    rcases Nat.lt_or_ge j i with h|h
    ·exact hz j h
    ·obtain rfl:j=i:=by omega
     exact Decidable.not_not.1 heq0
  ·have hlast:(nd 65 [] false l).length≤256:=by
    rcases Nat.lt_or_ge 256 (nd 65 [] false l).length with h|h
    ·have hlen:ns.length=257:=by rw[← hns,List.length_take]; omega
     have h0:=hz 256 (by omega)
     rw[hwn 256 (by omega)] at h0
     unfold wrongAt at h0
     rw[qH h] at h0
     have:=(wrongN_many h0).2
     omega
    ·exact h
   have hres:checkP l nt=((0:Int),([]:List Nat),(0:Int)):=hdone _ (by
    have hlen:ns.length=(nd 65 [] false l).length:=by rw[← hns,List.length_take]; omega
    have hf:firstWrong (nd 65 [] false l)=none:=firstWrong_none (fun j hj=>by rw[← hwn j (by omega)]; exact hz j (by omega))
    simp only[faultN,hf])
   simp (disch:=omega) only[push_cast,qE,h2,h5,h43,h44]
   repeat' (first|((first|refine gT rfl (fun h=>?_) (fun h=>?_)|refine gF rfl (fun h=>?_) (fun h=>?_)|refine cdD (fun h=>?_) (fun h=>?_)|(refine gbT rfl (fun h=>?_) (fun h=>?_)<;>(try subst h))|(refine gbF rfl (fun h=>?_) (fun h=>?_)<;>(try subst h))|(refine cdB (fun h=>?_) (fun h=>?_)<;>(try subst h))|refine lOn Shp.eq (by (first|exact mem0|exact mem1|exact mem2|exact mem3|exact mem4|exact mem5)) rfl ?_|refine lAg Shp.eq (by (first|exact mem0|exact mem1|exact mem2|exact mem3|exact mem4|exact mem5)) rfl rfl ?_|refine newI (fun b hb hn=>?_)|refine stX 0 rfl Siz.eq rfl rfl (by simp[qC]) (by simp) ?_|refine stX 1 rfl Siz.eq rfl rfl (by simp[qC]) (by simp) ?_|refine stX 2 rfl Siz.eq rfl rfl (by simp[qC]) (by simp) ?_|refine stX 3 rfl Siz.eq rfl rfl (by simp[qC]) (by simp) ?_|refine stX 4 rfl Siz.eq rfl rfl (by simp[qC]) (by simp) ?_|refine stX 5 rfl Siz.eq rfl rfl (by simp[qC]) (by simp) ?_|refine stX 6 rfl Siz.eq rfl rfl (by simp[qC]) (by simp) ?_)<;>simp (disch:=omega) only[push_cast,qE,h2,h5,h43,h44]))
   exact fun w' hw'=>⟨_,[],rfl,hw'.end (hLr _),by simp,by rw[hres]; exact ⟨none,0,rfl,⟨rfl,.inl ⟨rfl,rfl⟩⟩,fun _=>⟨rfl,rfl⟩⟩⟩
end Go.Proofs.YtilejcofleeeiaaGreatDoor
