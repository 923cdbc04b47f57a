/- YtilejcofleeeiaaGreatDoor: walks, part 7: the first thing that is wrong with a schema. -/
import Derived.Test.YtilejcofleeeiaaGreatDoorW6
namespace Go.Proofs.YtilejcofleeeiaaGreatDoor
open Go Go.K
open Nat renaming reduceEqDiff → qE
open Go.Value renaming oneCell' → qC
open List renaming mem_cons → qM, mem_nil_iff → qI, getElem?_eq_getElem → qH
set_option maxRecDepth 100000
set_option linter.unusedVariables false
set_option linter.unusedSimpArgs false
set_option maxHeartbeats 4000000
def idsOf (l:List FNode):List Int:=(l.filter (fun n=>n.f.k == 19)).map fun n=>n.f.id
theorem idsOf_snoc (l:List FNode) (n:FNode):idsOf (l++[n])=if n.f.k=19 then idsOf l++[n.f.id] else idsOf l:=by
 by_cases h:n.f.k=19<;>simp[idsOf,h]
def wrongAt (ns:List FNode) (k:Nat):Int:=match ns[k]? with|some n=>wrongN n.path.length n.ah n.f n.ind k (idsOf (ns.take k))|none=>0
def firstWrong (ns:List FNode):Option Nat:=(List.range ns.length).find? fun k=>wrongAt ns k != 0
theorem firstWrong_none {ns:List FNode} (h:∀ j,j < ns.length→wrongAt ns j=0):firstWrong ns=none:=by
 unfold firstWrong
 rw[List.find?_eq_none]
 intro j hj
 simp[h j (List.mem_range.1 hj)]
theorem firstWrong_at {ns:List FNode} {k:Nat} (hk:k < ns.length) (h:∀ j,j < k→wrongAt ns j=0) (hw:wrongAt ns k≠0):firstWrong ns=some k:=by
 unfold firstWrong
 rw[List.find?_eq_some_iff_append]
 refine ⟨un hw,List.range k,(List.range (ns.length - k - 1)).map (·+(k+1)),?_,?_⟩
 ·have h1:ns.length=k+(1+(ns.length - k - 1)):=by omega
  conv=>lhs; rw[h1]
  rw[List.range_add,List.range_add]
  simp[Function.comp_def,Nat.add_comm,Nat.add_left_comm]
 ·intro j hj
  simp[h j (List.mem_range.1 hj)]
def pathAt (ns:List FNode) (k:Nat):List Nat:=match ns[k]? with|some n=>n.path|none=>[]
def faultN (ns:List FNode):Int×List Nat:=match firstWrong ns with|some k=>(wrongAt ns k,pathAt ns k)|none=>(0,[])
abbrev NoteT:=List UInt8×List UInt8
def longNote (n:NoteT):Bool:=decide (256 < n.1.length) || decide (256 < n.2.length)
def checkP (l:List Fld) (nt:List NoteT):Int×List Nat×Int :=
 if 32 < l.length then (34,[],32) else if 16 < nt.length then (34,[],16) else
 match nt.findIdx? longNote with
 | some i=>(37,[],i)
 | none=>((faultN (nd 65 [] false l)).1,(faultN (nd 65 [] false l)).2,0)
theorem keysOf_congr {es:Array MapEntry} {S T:List Int} (h:KeysOf es S) (hST:∀ x,x∈S↔x∈T):KeysOf es T:=⟨h.int,fun x=>(h.mem x).trans (hST x)⟩
def RdN (w:World) (lo:Nat) (a:Option Addr) (l:List NoteT):Prop:=l=[]∨∃ b off,a=some ⟨b,off,none⟩∧b < lo∧∀ i n,l[i]?=some n→n.1.length≤9223372036854775807∧n.2.length≤9223372036854775807∧At w b (off+i * 2) [str n.1,str n.2]
def wrongFault (v:Value) (M:Own) (r:Int×List Nat×Int):Prop:=∃ pa pc,v=.agg #[i64 r.1,.slice pa r.2.1.length pc,i64 r.2.2]∧RowIn M 3 (.slice pa r.2.1.length pc) r.2.1.length (ints r.2.1)∧(r.2.1=[]→pa=none∧pc=0)
theorem note_at {nt:List NoteT} {i:Nat} {n:NoteT} (hno:∀ j n,j < i→nt[j]?=some n→longNote n=false) (hn:nt[i]?=some n) (h:longNote n=true):nt.findIdx? longNote=some i:=by
 obtain ⟨h1,h2⟩:=List.getElem?_eq_some_iff.1 hn
 rw[List.findIdx?_eq_some_iff_getElem]
 refine ⟨h1,by rw[h2]; exact h,fun j hj=>?_⟩
 rw[hno j _ hj (qH (by omega))]
 simp
theorem nd_path_ne:∀ (d:Nat) (path:List Nat) (ind:Bool) (l:List Fld) (x:FNode),x∈nd d path ind l→x.path≠[]
 | 0,_,_,_,x,h=>by simp[nd] at h
 | d+1,path,ind,l,x,h=>by
  simp only[nd,List.mem_flatMap,qM] at h
  obtain ⟨p,_,rfl|h⟩:=h
  ·simp
  ·exact nd_path_ne d _ _ _ x h
theorem pathAt_ne {d:Nat} {l:List Fld} {k:Nat} (hk:k < (nd d [] false l).length):pathAt (nd d [] false l) k≠[]:=by
 unfold pathAt
 rw[qH hk]
 exact nd_path_ne d [] false l _ (List.getElem_mem hk)
structure NotesI (w0:World) (b1 b2:Nat) (a:Option Addr) (l:List Fld) (c:Nat) (na:Option Addr) (nt:List NoteT) (nc:Nat) (i:Nat) (wb:World) (e:Env) (ds:List Deferred) (L:Own):Prop where
 hw:wb=w0
 d:ds=[]
 o:L=[(qb6 b2),(qb5 b1 a l.length c na nt.length nc)]
 il:i≤nt.length
 no:∀ j n,j < i→nt[j]?=some n→longNote n=false
 h1:e 1=.pointer (some ⟨b1,0,none⟩)
 h2:e 2=.pointer (some ⟨b2,0,none⟩)
 h22:e 22=.slice na nt.length nc
 h23:e 23=i64 nt.length
 h24:e 24=i64 i
theorem check_walk (w:World) (hs:SaysAt w) (lo:Nat) (hlo:lo≤w.heap.size) (l:List Fld) (a:Option Addr) (c:Nat) (hr:Rd w lo a l) (hc:l.length≤c) (hc2:c≤9223372036854775807)
 (nt:List NoteT) (na:Option Addr) (nc:Nat) (hn:RdN w lo na nt) (hnc:nt.length≤nc) (hnc2:nc≤9223372036854775807) :
 Calls Tryz.prog 79 #[.agg #[.slice a l.length c,.slice na nt.length nc]] w (RetsN w (fun v M=>wrongFault v M (checkP l nt))):=by
 refine enterM (args:=[.agg #[.slice a l.length c,.slice na nt.length nc]]) Tryz.func79 rfl Tryz.ntmps79 (congrArg Array.toList Tryz.results79) (by kernel_rfl) (by simp) (Sy.refl w) ?_
 refine sp ?_
 refine newI (fun b1 hb1 hn1=>?_)
 refine sp ?_
 refine newI (fun b2 hb2 hn2=>?_)
 have hL:∀ fl:Array Value,∀ p∈[(b2,Obj.cells fl 85 (0,0)),(qb5 b1 a l.length c na nt.length nc)],w.heap.size≤p.1:=by
  intro fl p hp
  simp only[qM,qI,or_false] at hp
  rcases hp with rfl|rfl<;>assumption
 refine sp ?_
 rw[Vb]
 refine sp ?_
 repeat' (first|((first|refine gT rfl (fun h=>?_) (fun h=>?_)|refine gF rfl (fun h=>?_) (fun h=>?_)|refine cdD (fun h=>?_) (fun h=>?_)|(refine gbT rfl (fun h=>?_) (fun h=>?_)<;>(try subst h))|(refine gbF rfl (fun h=>?_) (fun h=>?_)<;>(try subst h))|(refine cdB (fun h=>?_) (fun h=>?_)<;>(try subst h))|refine lOn Shp.eq (by (first|exact mem0|exact mem1|exact mem2|exact mem3|exact mem4|exact mem5)) rfl ?_|refine lAg Shp.eq (by (first|exact mem0|exact mem1|exact mem2|exact mem3|exact mem4|exact mem5)) rfl rfl ?_|refine newI (fun b hb hn=>?_)|refine stX 0 rfl Siz.eq rfl rfl (by simp[qC]) (by simp) ?_|refine stX 1 rfl Siz.eq rfl rfl (by simp[qC]) (by simp) ?_|refine stX 2 rfl Siz.eq rfl rfl (by simp[qC]) (by simp) ?_|refine stX 3 rfl Siz.eq rfl rfl (by simp[qC]) (by simp) ?_|refine stX 4 rfl Siz.eq rfl rfl (by simp[qC]) (by simp) ?_|refine stX 5 rfl Siz.eq rfl rfl (by simp[qC]) (by simp) ?_|refine stX 6 rfl Siz.eq rfl rfl (by simp[qC]) (by simp) ?_)<;>simp (disch:=omega) only[push_cast,qE]))
 rw[Vc]
 refine sp ?_
 refine cdD (fun c1=>?_) (fun c1=>?_)
 ·refine sp ?_
  repeat' (first|((first|refine gT rfl (fun h=>?_) (fun h=>?_)|refine gF rfl (fun h=>?_) (fun h=>?_)|refine cdD (fun h=>?_) (fun h=>?_)|(refine gbT rfl (fun h=>?_) (fun h=>?_)<;>(try subst h))|(refine gbF rfl (fun h=>?_) (fun h=>?_)<;>(try subst h))|(refine cdB (fun h=>?_) (fun h=>?_)<;>(try subst h))|refine lOn Shp.eq (by (first|exact mem0|exact mem1|exact mem2|exact mem3|exact mem4|exact mem5)) rfl ?_|refine lAg Shp.eq (by (first|exact mem0|exact mem1|exact mem2|exact mem3|exact mem4|exact mem5)) rfl rfl ?_|refine newI (fun b hb hn=>?_)|refine stX 0 rfl Siz.eq rfl rfl (by simp[qC]) (by simp) ?_|refine stX 1 rfl Siz.eq rfl rfl (by simp[qC]) (by simp) ?_|refine stX 2 rfl Siz.eq rfl rfl (by simp[qC]) (by simp) ?_|refine stX 3 rfl Siz.eq rfl rfl (by simp[qC]) (by simp) ?_|refine stX 4 rfl Siz.eq rfl rfl (by simp[qC]) (by simp) ?_|refine stX 5 rfl Siz.eq rfl rfl (by simp[qC]) (by simp) ?_|refine stX 6 rfl Siz.eq rfl rfl (by simp[qC]) (by simp) ?_)<;>simp (disch:=omega) only[push_cast,qE]))
  exact fun w' hw'=>⟨_,[],rfl,hw'.end (hL _),by simp,by unfold checkP; rw[if_pos (by omega)]; exact ⟨none,0,rfl,⟨rfl,.inl ⟨rfl,rfl⟩⟩,fun _=>⟨rfl,rfl⟩⟩⟩
 refine sp ?_
 repeat' (first|((first|refine gT rfl (fun h=>?_) (fun h=>?_)|refine gF rfl (fun h=>?_) (fun h=>?_)|refine cdD (fun h=>?_) (fun h=>?_)|(refine gbT rfl (fun h=>?_) (fun h=>?_)<;>(try subst h))|(refine gbF rfl (fun h=>?_) (fun h=>?_)<;>(try subst h))|(refine cdB (fun h=>?_) (fun h=>?_)<;>(try subst h))|refine lOn Shp.eq (by (first|exact mem0|exact mem1|exact mem2|exact mem3|exact mem4|exact mem5)) rfl ?_|refine lAg Shp.eq (by (first|exact mem0|exact mem1|exact mem2|exact mem3|exact mem4|exact mem5)) rfl rfl ?_|refine newI (fun b hb hn=>?_)|refine stX 0 rfl Siz.eq rfl rfl (by simp[qC]) (by simp) ?_|refine stX 1 rfl Siz.eq rfl rfl (by simp[qC]) (by simp) ?_|refine stX 2 rfl Siz.eq rfl rfl (by simp[qC]) (by simp) ?_|refine stX 3 rfl Siz.eq rfl rfl (by simp[qC]) (by simp) ?_|refine stX 4 rfl Siz.eq rfl rfl (by simp[qC]) (by simp) ?_|refine stX 5 rfl Siz.eq rfl rfl (by simp[qC]) (by simp) ?_|refine stX 6 rfl Siz.eq rfl rfl (by simp[qC]) (by simp) ?_)<;>simp (disch:=omega) only[push_cast,qE]))
 rw[Vc]
 refine sp ?_
 refine cdD (fun c2=>?_) (fun c2=>?_)
 ·refine sp ?_
  repeat' (first|((first|refine gT rfl (fun h=>?_) (fun h=>?_)|refine gF rfl (fun h=>?_) (fun h=>?_)|refine cdD (fun h=>?_) (fun h=>?_)|(refine gbT rfl (fun h=>?_) (fun h=>?_)<;>(try subst h))|(refine gbF rfl (fun h=>?_) (fun h=>?_)<;>(try subst h))|(refine cdB (fun h=>?_) (fun h=>?_)<;>(try subst h))|refine lOn Shp.eq (by (first|exact mem0|exact mem1|exact mem2|exact mem3|exact mem4|exact mem5)) rfl ?_|refine lAg Shp.eq (by (first|exact mem0|exact mem1|exact mem2|exact mem3|exact mem4|exact mem5)) rfl rfl ?_|refine newI (fun b hb hn=>?_)|refine stX 0 rfl Siz.eq rfl rfl (by simp[qC]) (by simp) ?_|refine stX 1 rfl Siz.eq rfl rfl (by simp[qC]) (by simp) ?_|refine stX 2 rfl Siz.eq rfl rfl (by simp[qC]) (by simp) ?_|refine stX 3 rfl Siz.eq rfl rfl (by simp[qC]) (by simp) ?_|refine stX 4 rfl Siz.eq rfl rfl (by simp[qC]) (by simp) ?_|refine stX 5 rfl Siz.eq rfl rfl (by simp[qC]) (by simp) ?_|refine stX 6 rfl Siz.eq rfl rfl (by simp[qC]) (by simp) ?_)<;>simp (disch:=omega) only[push_cast,qE]))
  exact fun w' hw'=>⟨_,[],rfl,hw'.end (hL _),by simp,by unfold checkP; rw[if_neg (by omega),if_pos (by omega)]; exact ⟨none,0,rfl,⟨rfl,.inl ⟨rfl,rfl⟩⟩,fun _=>⟨rfl,rfl⟩⟩⟩
 refine sp ?_
 repeat' (first|((first|refine gT rfl (fun h=>?_) (fun h=>?_)|refine gF rfl (fun h=>?_) (fun h=>?_)|refine cdD (fun h=>?_) (fun h=>?_)|(refine gbT rfl (fun h=>?_) (fun h=>?_)<;>(try subst h))|(refine gbF rfl (fun h=>?_) (fun h=>?_)<;>(try subst h))|(refine cdB (fun h=>?_) (fun h=>?_)<;>(try subst h))|refine lOn Shp.eq (by (first|exact mem0|exact mem1|exact mem2|exact mem3|exact mem4|exact mem5)) rfl ?_|refine lAg Shp.eq (by (first|exact mem0|exact mem1|exact mem2|exact mem3|exact mem4|exact mem5)) rfl rfl ?_|refine newI (fun b hb hn=>?_)|refine stX 0 rfl Siz.eq rfl rfl (by simp[qC]) (by simp) ?_|refine stX 1 rfl Siz.eq rfl rfl (by simp[qC]) (by simp) ?_|refine stX 2 rfl Siz.eq rfl rfl (by simp[qC]) (by simp) ?_|refine stX 3 rfl Siz.eq rfl rfl (by simp[qC]) (by simp) ?_|refine stX 4 rfl Siz.eq rfl rfl (by simp[qC]) (by simp) ?_|refine stX 5 rfl Siz.eq rfl rfl (by simp[qC]) (by simp) ?_|refine stX 6 rfl Siz.eq rfl rfl (by simp[qC]) (by simp) ?_)<;>simp (disch:=omega) only[push_cast,qE]))
 rw[Vb]
 refine sp ?_
 refine loopW (G:=Nat) (NotesI w b1 b2 a l c na nt nc) (fun i=>nt.length - i) 0 _ (fun w hw=>hw) (by kernel_rfl) ⟨rfl,rfl,rfl,by omega,by omega,rfl,rfl,rfl,rfl,rfl⟩ ?_
 rintro i wb e ds L ⟨rfl,rfl,rfl,hil,hno,h1,h2,h22,h23,h24⟩
 simp (disch:=omega) only[push_cast,qE,h1,h2,h22,h23,h24]
 rw[Vc]
 simp (disch:=omega) only[push_cast,qE,h1,h2,h22,h23,h24]
 refine cdD (fun hlt=>?_) (fun hge=>?_)
 ·obtain ⟨n,hnn⟩:∃ n,nt[i]?=some n:=⟨_,qH (by omega)⟩
  rcases hn with rfl|⟨nb,noff,rfl,hnb,hn⟩
  ·simp at hnn
  obtain ⟨y1,y2,y3⟩:=hn i n hnn
  simp (disch:=omega) only[push_cast,qE,h1,h2,h22,h23,h24]
  rw[Vb]
  simp (disch:=omega) only[push_cast,qE,h1,h2,h22,h23,h24]
  refine ldAggF sh_139 y3 rfl (out_of (fun p hp=>Nat.lt_of_lt_of_le (Nat.lt_of_lt_of_le hnb hlo) (hL _ p hp))) ?_
  simp (disch:=omega) only[push_cast,qE,h1,h2,h22,h23,h24]
  refine newI (fun bn hbn hnn2=>?_)
  have hL3:∀ fl:Array Value,∀ p∈[(bn,Obj.cells #[str n.1,str n.2] 139 (0,0)),(b2,Obj.cells fl 85 (0,0)),(b1,Obj.cells #[.slice a l.length c,.slice (some ⟨nb,noff,none⟩) nt.length nc] 114 (0,0))],wb.heap.size≤p.1:=by
   intro fl p hp
   rcases List.mem_cons.1 hp with rfl|hp
   ·assumption
   ·exact hL fl p hp
  simp (disch:=omega) only[push_cast,qE,h1,h2,h22,h23,h24]
  repeat' (first|((first|refine gT rfl (fun h=>?_) (fun h=>?_)|refine gF rfl (fun h=>?_) (fun h=>?_)|refine cdD (fun h=>?_) (fun h=>?_)|(refine gbT rfl (fun h=>?_) (fun h=>?_)<;>(try subst h))|(refine gbF rfl (fun h=>?_) (fun h=>?_)<;>(try subst h))|(refine cdB (fun h=>?_) (fun h=>?_)<;>(try subst h))|refine lOn Shp.eq (by (first|exact mem0|exact mem1|exact mem2|exact mem3|exact mem4|exact mem5)) rfl ?_|refine lAg Shp.eq (by (first|exact mem0|exact mem1|exact mem2|exact mem3|exact mem4|exact mem5)) rfl rfl ?_|refine newI (fun b hb hn=>?_)|refine stX 0 rfl Siz.eq rfl rfl (by simp[qC]) (by simp) ?_|refine stX 1 rfl Siz.eq rfl rfl (by simp[qC]) (by simp) ?_|refine stX 2 rfl Siz.eq rfl rfl (by simp[qC]) (by simp) ?_|refine stX 3 rfl Siz.eq rfl rfl (by simp[qC]) (by simp) ?_|refine stX 4 rfl Siz.eq rfl rfl (by simp[qC]) (by simp) ?_|refine stX 5 rfl Siz.eq rfl rfl (by simp[qC]) (by simp) ?_|refine stX 6 rfl Siz.eq rfl rfl (by simp[qC]) (by simp) ?_)<;>simp (disch:=omega) only[push_cast,qE,h1,h2,h22,h23,h24]))
  all_goals (rw[Vc]; simp (disch:=omega) only[push_cast,qE,h1,h2,h22,h23,h24])
  ·refine cdD (fun hb2=>?_) (fun hb2=>?_)
   ·simp (disch:=omega) only[push_cast,qE,h1,h2,h22,h23,h24]
    repeat' (first|((first|refine gT rfl (fun h=>?_) (fun h=>?_)|refine gF rfl (fun h=>?_) (fun h=>?_)|refine cdD (fun h=>?_) (fun h=>?_)|(refine gbT rfl (fun h=>?_) (fun h=>?_)<;>(try subst h))|(refine gbF rfl (fun h=>?_) (fun h=>?_)<;>(try subst h))|(refine cdB (fun h=>?_) (fun h=>?_)<;>(try subst h))|refine lOn Shp.eq (by (first|exact mem0|exact mem1|exact mem2|exact mem3|exact mem4|exact mem5)) rfl ?_|refine lAg Shp.eq (by (first|exact mem0|exact mem1|exact mem2|exact mem3|exact mem4|exact mem5)) rfl rfl ?_|refine newI (fun b hb hn=>?_)|refine stX 0 rfl Siz.eq rfl rfl (by simp[qC]) (by simp) ?_|refine stX 1 rfl Siz.eq rfl rfl (by simp[qC]) (by simp) ?_|refine stX 2 rfl Siz.eq rfl rfl (by simp[qC]) (by simp) ?_|refine stX 3 rfl Siz.eq rfl rfl (by simp[qC]) (by simp) ?_|refine stX 4 rfl Siz.eq rfl rfl (by simp[qC]) (by simp) ?_|refine stX 5 rfl Siz.eq rfl rfl (by simp[qC]) (by simp) ?_|refine stX 6 rfl Siz.eq rfl rfl (by simp[qC]) (by simp) ?_)<;>simp (disch:=omega) only[push_cast,qE,h1,h2,h22,h23,h24]))
    refine fun w' hw'=>⟨_,[],rfl,hw'.end (hL3 _),by simp,?_⟩
    have:checkP l nt=((37:Int),([]:List Nat),(i:Int)):=by
     unfold checkP
     rw[if_neg (by omega),if_neg (by omega),note_at hno hnn (by simp only[longNote,Bool.or_eq_true,decide_eq_true_eq]; omega)]
    rw[this]
    exact ⟨none,0,rfl,⟨rfl,.inl ⟨rfl,rfl⟩⟩,fun _=>⟨rfl,rfl⟩⟩
   ·simp (disch:=omega) only[push_cast,qE,h1,h2,h22,h23,h24]
    exact ⟨i+1,_,fun w hw=>hw.mid [] [(bn,Obj.cells #[str n.1,str n.2] 139 (0,0))] (fun p hp=>by rw[List.mem_singleton.1 hp]; exact hbn),⟨rfl,rfl,rfl,by omega,fun j m hj hm=>by
     rcases Nat.lt_or_ge j i with h5|h5
     ·exact hno j m h5 hm
     ·obtain rfl:j=i:=by omega
      rw[hnn] at hm
      cases hm
      simp only[longNote,Bool.or_eq_false_iff,decide_eq_false_iff_not]
      omega,h1,h2,h22,h23,uu⟩,by omega⟩
  ·repeat' (first|((first|refine gT rfl (fun h=>?_) (fun h=>?_)|refine gF rfl (fun h=>?_) (fun h=>?_)|refine cdD (fun h=>?_) (fun h=>?_)|(refine gbT rfl (fun h=>?_) (fun h=>?_)<;>(try subst h))|(refine gbF rfl (fun h=>?_) (fun h=>?_)<;>(try subst h))|(refine cdB (fun h=>?_) (fun h=>?_)<;>(try subst h))|refine lOn Shp.eq (by (first|exact mem0|exact mem1|exact mem2|exact mem3|exact mem4|exact mem5)) rfl ?_|refine lAg Shp.eq (by (first|exact mem0|exact mem1|exact mem2|exact mem3|exact mem4|exact mem5)) rfl rfl ?_|refine newI (fun b hb hn=>?_)|refine stX 0 rfl Siz.eq rfl rfl (by simp[qC]) (by simp) ?_|refine stX 1 rfl Siz.eq rfl rfl (by simp[qC]) (by simp) ?_|refine stX 2 rfl Siz.eq rfl rfl (by simp[qC]) (by simp) ?_|refine stX 3 rfl Siz.eq rfl rfl (by simp[qC]) (by simp) ?_|refine stX 4 rfl Siz.eq rfl rfl (by simp[qC]) (by simp) ?_|refine stX 5 rfl Siz.eq rfl rfl (by simp[qC]) (by simp) ?_|refine stX 6 rfl Siz.eq rfl rfl (by simp[qC]) (by simp) ?_)<;>simp (disch:=omega) only[push_cast,qE,h1,h2,h22,h23,h24]))
   refine fun w' hw'=>⟨_,[],rfl,hw'.end (hL3 _),by simp,?_⟩
   have:checkP l nt=((37:Int),([]:List Nat),(i:Int)):=by
    unfold checkP
    rw[if_neg (by omega),if_neg (by omega),note_at hno hnn (by simp only[longNote,Bool.or_eq_true,decide_eq_true_eq]; omega)]
   rw[this]
   exact ⟨none,0,rfl,⟨rfl,.inl ⟨rfl,rfl⟩⟩,fun _=>⟨rfl,rfl⟩⟩
 ·obtain rfl:i=nt.length:=by omega
  have hnone:nt.findIdx? longNote=none:=by
   rw[List.findIdx?_eq_none_iff]
   intro x hx
   obtain ⟨j,hj⟩:=List.mem_iff_getElem?.1 hx
   exact hno j x (List.getElem?_eq_some_iff.1 hj).1 hj
  simp (disch:=omega) only[push_cast,qE,h1,h2,h22,h23,h24]
  refine newI (fun b5 hb5 hn5=>?_)
  simp (disch:=omega) only[push_cast,qE,h1,h2,h22,h23,h24]
  repeat' (first|((first|refine gT rfl (fun h=>?_) (fun h=>?_)|refine gF rfl (fun h=>?_) (fun h=>?_)|refine cdD (fun h=>?_) (fun h=>?_)|(refine gbT rfl (fun h=>?_) (fun h=>?_)<;>(try subst h))|(refine gbF rfl (fun h=>?_) (fun h=>?_)<;>(try subst h))|(refine cdB (fun h=>?_) (fun h=>?_)<;>(try subst h))|refine lOn Shp.eq (by (first|exact mem0|exact mem1|exact mem2|exact mem3|exact mem4|exact mem5)) rfl ?_|refine lAg Shp.eq (by (first|exact mem0|exact mem1|exact mem2|exact mem3|exact mem4|exact mem5)) rfl rfl ?_|refine newI (fun b hb hn=>?_)|refine stX 0 rfl Siz.eq rfl rfl (by simp[qC]) (by simp) ?_|refine stX 1 rfl Siz.eq rfl rfl (by simp[qC]) (by simp) ?_|refine stX 2 rfl Siz.eq rfl rfl (by simp[qC]) (by simp) ?_|refine stX 3 rfl Siz.eq rfl rfl (by simp[qC]) (by simp) ?_|refine stX 4 rfl Siz.eq rfl rfl (by simp[qC]) (by simp) ?_|refine stX 5 rfl Siz.eq rfl rfl (by simp[qC]) (by simp) ?_|refine stX 6 rfl Siz.eq rfl rfl (by simp[qC]) (by simp) ?_)<;>simp (disch:=omega) only[push_cast,qE,h1,h2,h22,h23,h24]))
  refine makeMapX (newI (fun bm hbm hnm=>?_))
  simp (disch:=omega) only[push_cast,qE,h1,h2,h22,h23,h24]
  refine newI (fun b6 hb6 hn6=>?_)
  simp (disch:=omega) only[push_cast,qE,h1,h2,h22,h23,h24]
  repeat' (first|((first|refine gT rfl (fun h=>?_) (fun h=>?_)|refine gF rfl (fun h=>?_) (fun h=>?_)|refine cdD (fun h=>?_) (fun h=>?_)|(refine gbT rfl (fun h=>?_) (fun h=>?_)<;>(try subst h))|(refine gbF rfl (fun h=>?_) (fun h=>?_)<;>(try subst h))|(refine cdB (fun h=>?_) (fun h=>?_)<;>(try subst h))|refine lOn Shp.eq (by (first|exact mem0|exact mem1|exact mem2|exact mem3|exact mem4|exact mem5)) rfl ?_|refine lAg Shp.eq (by (first|exact mem0|exact mem1|exact mem2|exact mem3|exact mem4|exact mem5)) rfl rfl ?_|refine newI (fun b hb hn=>?_)|refine stX 0 rfl Siz.eq rfl rfl (by simp[qC]) (by simp) ?_|refine stX 1 rfl Siz.eq rfl rfl (by simp[qC]) (by simp) ?_|refine stX 2 rfl Siz.eq rfl rfl (by simp[qC]) (by simp) ?_|refine stX 3 rfl Siz.eq rfl rfl (by simp[qC]) (by simp) ?_|refine stX 4 rfl Siz.eq rfl rfl (by simp[qC]) (by simp) ?_|refine stX 5 rfl Siz.eq rfl rfl (by simp[qC]) (by simp) ?_|refine stX 6 rfl Siz.eq rfl rfl (by simp[qC]) (by simp) ?_)<;>simp (disch:=omega) only[push_cast,qE,h1,h2,h22,h23,h24]))
  refine callV en_112 (cNw (fun w' _=>all_walk w' a l.length c 65) (fun v M hM hMn ⟨bl,bo,hne,hv,hMM⟩=>?_))
  subst hv; subst hMM
  simp (disch:=omega) only[push_cast,qE,h1,h2,h22,h23,h24]
  rw[Vb]
  simp (disch:=omega) only[push_cast,qE,h1,h2,h22,h23,h24]
  refine forgetS (fun e=>e 1=.pointer (some ⟨b1,0,none⟩)∧e 2=.pointer (some ⟨b2,0,none⟩)∧e 5=.pointer (some ⟨b5,0,none⟩)∧e 6=.pointer (some ⟨b6,0,none⟩)∧e 45=.func (.func 135) #[] #[.pointer (some ⟨bo,0,none⟩),.pointer (some ⟨bl,0,none⟩)]) ⟨h1,h2,rfl,rfl,rfl⟩ ?_
  clear h1 h2 h22 h23 h24 e
  rintro e ⟨e1,e2,e5,e6,e45⟩
  refine rangeY rfl e45 en_135 (fun fn tm d lr rec hrec htm hdl hd hlr hdn hlrn w' hw'=>?_)
  have hMlo:∀ p∈[(bo,Obj.cells #[i64 65] 3 (0,0)),(bl,Obj.cells #[.slice a l.length c] 22 (0,0))],wb.heap.size≤p.1:=hM
  refine (all1_walk wb lo hlo (nd 65 [] false l)
   (fun k C=>k≤(nd 65 [] false l).length∧(∀ j,j < k→wrongAt (nd 65 [] false l) j=0)∧∃ es clk,KeysOf es (idsOf ((nd 65 [] false l).take k))∧C=[(lr,.loop rec),(d,.deferred (some [])),(b6,.cells #[.map (some bm)] 140 (0,0)),(bm,.map es clk),(qb4 b5 k),(qb6 b2),(qb5 b1 a l.length c na nt.length nc)])
   (fun k C=>k < (nd 65 [] false l).length∧(∀ j,j < k→wrongAt (nd 65 [] false l) j=0)∧wrongAt (nd 65 [] false l) k≠0∧∃ es clk rec' bw cap cs,rec'.state=.done∧rec'.pending=some .ret∧wb.heap.size≤bw∧RowIn [(bw,.cells cs 3 (0,0))] 3 (.slice (some ⟨bw,0,none⟩) (pathAt (nd 65 [] false l) k).length cap) (pathAt (nd 65 [] false l) k).length (ints (pathAt (nd 65 [] false l) k)) ∧
    C=[(lr,.loop rec'),(d,.deferred (some [])),(b6,.cells #[.map (some bm)] 140 (0,0)),(bm,.map es clk),(qb4 b5 k),(b2,.cells #[i64 (wrongAt (nd 65 [] false l) k),.slice (some ⟨bw,0,none⟩) (pathAt (nd 65 [] false l) k).length cap,i64 0] 85 (0,0)),(qb5 b1 a l.length c na nt.length nc),(bw,.cells cs 3 (0,0))])
   (.func (.yield lr) #[] #[]) rfl rfl ⟨(by intro g f c h; cases h),?_,?_⟩ 65 (by omega) (by omega) w' [(lr,.loop rec),(d,.deferred (some [])),(b6,.cells #[.map (some bm)] 140 (0,0)),(bm,.map #[] 0),(b5,.cells #[i64 0] 3 (0,0)),(qb6 b2),(qb5 b1 a l.length c na nt.length nc)] [(bo,.cells #[i64 65] 3 (0,0)),(bl,.cells #[.slice a l.length c] 22 (0,0))] bo bl l a c
   (hw'.perm (((List.perm_append_comm (l₁:=[(bo,Obj.cells #[i64 65] 3 (0,0)),(bl,Obj.cells #[.slice a l.length c] 22 (0,0))])).cons _).cons _)) ⟨Nat.zero_le _,fun j hj=>absurd hj (by omega),#[],0,KeysOf.nil,rfl⟩ hMlo (.head _) (.tail _ (.head _)) hr hc hc2 rfl).mono ?_
  ·rintro k C ⟨_,_,es,clk,_,rfl⟩ p hp
   simp only[qM,qI,or_false] at hp
   rcases hp with rfl|rfl|rfl|rfl|rfl|rfl|rfl<;>assumption
  ·rintro k n hkn C M bw cap cs fa aa fc ac ⟨hk,hz,es,clk,hkeys,rfl⟩ hbw hpc hcm hcl hct hrf hfc hfc2 hnm hra hac hac2 hpl hM2 w2 hw2
   obtain ⟨A,B,hA,hB⟩:∃ A B,A=rec.assign∧B=rec.body:=⟨_,_,rfl,rfl⟩
   subst hrec
   refine roundX (i:=0) rfl htm rfl (by simp) (by kernel_rfl) (by kernel_rfl) ?_ w2 hw2
   simp (disch:=omega) only[push_cast,qE,e1,e2,e5,e6,placeV]
   refine newI (fun b7 hb7 hn7=>?_)
   simp (disch:=omega) only[push_cast,qE,e1,e2,e5,e6]
   repeat' (first|((first|refine gT rfl (fun h=>?_) (fun h=>?_)|refine gF rfl (fun h=>?_) (fun h=>?_)|refine cdD (fun h=>?_) (fun h=>?_)|(refine gbT rfl (fun h=>?_) (fun h=>?_)<;>(try subst h))|(refine gbF rfl (fun h=>?_) (fun h=>?_)<;>(try subst h))|(refine cdB (fun h=>?_) (fun h=>?_)<;>(try subst h))|refine lOn Shp.eq (by (first|exact mem0|exact mem1|exact mem2|exact mem3|exact mem4|exact mem5)) rfl ?_|refine lAg Shp.eq (by (first|exact mem0|exact mem1|exact mem2|exact mem3|exact mem4|exact mem5)) rfl rfl ?_|refine newI (fun b hb hn=>?_)|refine stX 0 rfl Siz.eq rfl rfl (by simp[qC]) (by simp) ?_|refine stX 1 rfl Siz.eq rfl rfl (by simp[qC]) (by simp) ?_|refine stX 2 rfl Siz.eq rfl rfl (by simp[qC]) (by simp) ?_|refine stX 3 rfl Siz.eq rfl rfl (by simp[qC]) (by simp) ?_|refine stX 4 rfl Siz.eq rfl rfl (by simp[qC]) (by simp) ?_|refine stX 5 rfl Siz.eq rfl rfl (by simp[qC]) (by simp) ?_|refine stX 6 rfl Siz.eq rfl rfl (by simp[qC]) (by simp) ?_)<;>simp (disch:=omega) only[push_cast,qE,e1,e2,e5,e6]))
   refine ⟨1,rfl,?_⟩
   simp (disch:=omega) only[push_cast,qE,e1,e2,e5,e6]
   rw[Vb]
   simp (disch:=omega) only[push_cast,qE,e1,e2,e5,e6]
   repeat' (first|((first|refine gT rfl (fun h=>?_) (fun h=>?_)|refine gF rfl (fun h=>?_) (fun h=>?_)|refine cdD (fun h=>?_) (fun h=>?_)|(refine gbT rfl (fun h=>?_) (fun h=>?_)<;>(try subst h))|(refine gbF rfl (fun h=>?_) (fun h=>?_)<;>(try subst h))|(refine cdB (fun h=>?_) (fun h=>?_)<;>(try subst h))|refine lOn Shp.eq (by (first|exact mem0|exact mem1|exact mem2|exact mem3|exact mem4|exact mem5)) rfl ?_|refine lAg Shp.eq (by (first|exact mem0|exact mem1|exact mem2|exact mem3|exact mem4|exact mem5)) rfl rfl ?_|refine newI (fun b hb hn=>?_)|refine stX 0 rfl Siz.eq rfl rfl (by simp[qC]) (by simp) ?_|refine stX 1 rfl Siz.eq rfl rfl (by simp[qC]) (by simp) ?_|refine stX 2 rfl Siz.eq rfl rfl (by simp[qC]) (by simp) ?_|refine stX 3 rfl Siz.eq rfl rfl (by simp[qC]) (by simp) ?_|refine stX 4 rfl Siz.eq rfl rfl (by simp[qC]) (by simp) ?_|refine stX 5 rfl Siz.eq rfl rfl (by simp[qC]) (by simp) ?_|refine stX 6 rfl Siz.eq rfl rfl (by simp[qC]) (by simp) ?_)<;>simp (disch:=omega) only[push_cast,qE,e1,e2,e5,e6]))
   have hnew:∀ p∈[(b7,Obj.cells #[.slice (some ⟨bw,0,none⟩) n.path.length cap,.slice aa n.ah.length ac,str n.f.nm,.bool n.f.nl,i64 n.f.k,i64 n.f.wd,i64 n.f.id,i64 n.f.ix,.slice fa n.f.sub.length fc,.bool n.ind] 145 (0,0))],wb.heap.size≤p.1:=by
    intro p hp; rw[List.mem_singleton.1 hp]; exact hb7
   have hwr:wrongAt (nd 65 [] false l) k=wrongN n.path.length n.ah n.f n.ind k (idsOf ((nd 65 [] false l).take k)):=by
    unfold wrongAt; rw[hkn]
   have hall:∀ (x y:Obj) (p:Nat×Obj),p∈((b7,x)::(lr,y)::(d,Obj.deferred (some []))::(b6,Obj.cells #[.map (some bm)] 140 (0,0))::(bm,Obj.map es clk)::(qb4 b5 k)::(qb6 b2)::(qb5 b1 a l.length c na nt.length nc)::(bw,Obj.cells cs.toArray 3 (0,0))::M)→wb.heap.size≤p.1:=by
    intro x y p hp
    simp only[qM] at hp
    rcases hp with rfl|rfl|rfl|rfl|rfl|rfl|rfl|rfl|rfl|hp<;>first|assumption|exact hM2 p hp
   refine callV en_113 (cIs (fun w3 hw3=>wrong_walk w3 (hs.mono hw3 (hall _ _)) lo (Nat.le_trans hlo hw3.size) (some ⟨bw,0,none⟩) n.path.length cap aa n.ah ac (hra.sy hlo hw3 (fun p hp=>Nat.le_trans hlo (hall _ _ p hp))) hac hac2 n.f fa fc (hrf.sy hlo hw3 (fun p hp=>Nat.le_trans hlo (hall _ _ p hp))) hfc hnm n.ind k bm clk es _ (hw3.own bm _ (.tail _ (.tail _ (.tail _ (.tail _ (.head _)))))) hkeys) ?_)
   rw[← hwr]
   simp (disch:=omega) only[push_cast,qE,e1,e2,e5,e6]
   repeat' (first|((first|refine gT rfl (fun h=>?_) (fun h=>?_)|refine gF rfl (fun h=>?_) (fun h=>?_)|refine cdD (fun h=>?_) (fun h=>?_)|(refine gbT rfl (fun h=>?_) (fun h=>?_)<;>(try subst h))|(refine gbF rfl (fun h=>?_) (fun h=>?_)<;>(try subst h))|(refine cdB (fun h=>?_) (fun h=>?_)<;>(try subst h))|refine lOn Shp.eq (by (first|exact mem0|exact mem1|exact mem2|exact mem3|exact mem4|exact mem5)) rfl ?_|refine lAg Shp.eq (by (first|exact mem0|exact mem1|exact mem2|exact mem3|exact mem4|exact mem5)) rfl rfl ?_|refine newI (fun b hb hn=>?_)|refine stX 0 rfl Siz.eq rfl rfl (by simp[qC]) (by simp) ?_|refine stX 1 rfl Siz.eq rfl rfl (by simp[qC]) (by simp) ?_|refine stX 2 rfl Siz.eq rfl rfl (by simp[qC]) (by simp) ?_|refine stX 3 rfl Siz.eq rfl rfl (by simp[qC]) (by simp) ?_|refine stX 4 rfl Siz.eq rfl rfl (by simp[qC]) (by simp) ?_|refine stX 5 rfl Siz.eq rfl rfl (by simp[qC]) (by simp) ?_|refine stX 6 rfl Siz.eq rfl rfl (by simp[qC]) (by simp) ?_)<;>simp (disch:=omega) only[push_cast,qE,e1,e2,e5,e6]))
   have hpa:pathAt (nd 65 [] false l) k=n.path:=by unfold pathAt; rw[hkn]
   have hklt:k < (nd 65 [] false l).length:=(List.getElem?_eq_some_iff.1 hkn).1
   rw[Vc]
   simp (disch:=omega) only[push_cast,qE,e1,e2,e5,e6]
   refine cdD (fun hne0=>?_) (fun heq0=>?_)
   ·simp (disch:=omega) only[push_cast,qE,e1,e2,e5,e6]
    repeat' (first|((first|refine gT rfl (fun h=>?_) (fun h=>?_)|refine gF rfl (fun h=>?_) (fun h=>?_)|refine cdD (fun h=>?_) (fun h=>?_)|(refine gbT rfl (fun h=>?_) (fun h=>?_)<;>(try subst h))|(refine gbF rfl (fun h=>?_) (fun h=>?_)<;>(try subst h))|(refine cdB (fun h=>?_) (fun h=>?_)<;>(try subst h))|refine lOn Shp.eq (by (first|exact mem0|exact mem1|exact mem2|exact mem3|exact mem4|exact mem5)) rfl ?_|refine lAg Shp.eq (by (first|exact mem0|exact mem1|exact mem2|exact mem3|exact mem4|exact mem5)) rfl rfl ?_|refine newI (fun b hb hn=>?_)|refine stX 0 rfl Siz.eq rfl rfl (by simp[qC]) (by simp) ?_|refine stX 1 rfl Siz.eq rfl rfl (by simp[qC]) (by simp) ?_|refine stX 2 rfl Siz.eq rfl rfl (by simp[qC]) (by simp) ?_|refine stX 3 rfl Siz.eq rfl rfl (by simp[qC]) (by simp) ?_|refine stX 4 rfl Siz.eq rfl rfl (by simp[qC]) (by simp) ?_|refine stX 5 rfl Siz.eq rfl rfl (by simp[qC]) (by simp) ?_|refine stX 6 rfl Siz.eq rfl rfl (by simp[qC]) (by simp) ?_)<;>simp (disch:=omega) only[push_cast,qE,e1,e2,e5,e6]))
    refine ⟨1,_,rfl,fun w4 hw4=>.inr ⟨rfl,_,⟨[_,_,_,_,_,_,_,_],⟨hklt,hz,hne0,es,clk,(⟨.done,some .ret,fn,tm,#[46],A,B,d⟩:Loop),bw,cap,cs.toArray,rfl,rfl,hbw,by rw[hpa]; exact ⟨by simp[ints],.inr ⟨bw,cap,cs,rfl,.head _,hpc,hcm,hcl,hct⟩⟩,by rw[hA,hB]⟩,rfl⟩,?_⟩⟩
    rw[hpa]
    exact hw4.mid [] _ hnew
   have h0:wrongAt (nd 65 [] false l) k=0:=Decidable.not_not.1 heq0
   have hk256:k < 256:=by
    rw[hwr] at h0
    unfold wrongN at h0
    split at h0
    ·omega
    ·split at h0
     ·omega
     ·omega
   simp (disch:=omega) only[push_cast,qE,e1,e2,e5,e6]
   repeat' (first|((first|refine gT rfl (fun h=>?_) (fun h=>?_)|refine gF rfl (fun h=>?_) (fun h=>?_)|refine cdD (fun h=>?_) (fun h=>?_)|(refine gbT rfl (fun h=>?_) (fun h=>?_)<;>(try subst h))|(refine gbF rfl (fun h=>?_) (fun h=>?_)<;>(try subst h))|(refine cdB (fun h=>?_) (fun h=>?_)<;>(try subst h))|refine lOn Shp.eq (by (first|exact mem0|exact mem1|exact mem2|exact mem3|exact mem4|exact mem5)) rfl ?_|refine lAg Shp.eq (by (first|exact mem0|exact mem1|exact mem2|exact mem3|exact mem4|exact mem5)) rfl rfl ?_|refine newI (fun b hb hn=>?_)|refine stX 0 rfl Siz.eq rfl rfl (by simp[qC]) (by simp) ?_|refine stX 1 rfl Siz.eq rfl rfl (by simp[qC]) (by simp) ?_|refine stX 2 rfl Siz.eq rfl rfl (by simp[qC]) (by simp) ?_|refine stX 3 rfl Siz.eq rfl rfl (by simp[qC]) (by simp) ?_|refine stX 4 rfl Siz.eq rfl rfl (by simp[qC]) (by simp) ?_|refine stX 5 rfl Siz.eq rfl rfl (by simp[qC]) (by simp) ?_|refine stX 6 rfl Siz.eq rfl rfl (by simp[qC]) (by simp) ?_)<;>simp (disch:=omega) only[push_cast,qE,e1,e2,e5,e6]))
   have htk:(nd 65 [] false l).take (k+1)=(nd 65 [] false l).take k++[n]:=by rw[List.take_add_one,hkn]; rfl
   have hz':∀ j,j < k+1→wrongAt (nd 65 [] false l) j=0:=fun j hj=>by
    rcases Nat.lt_or_ge j k with h|h
    ·exact hz j h
    ·obtain rfl:j=k:=by omega
     exact h0
   rw[Vc]
   simp (disch:=omega) only[push_cast,qE,e1,e2,e5,e6]
   refine cdD (fun h19=>?_) (fun h19=>?_)
   ·simp (disch:=omega) only[push_cast,qE,e1,e2,e5,e6]
    repeat' (first|((first|refine gT rfl (fun h=>?_) (fun h=>?_)|refine gF rfl (fun h=>?_) (fun h=>?_)|refine cdD (fun h=>?_) (fun h=>?_)|(refine gbT rfl (fun h=>?_) (fun h=>?_)<;>(try subst h))|(refine gbF rfl (fun h=>?_) (fun h=>?_)<;>(try subst h))|(refine cdB (fun h=>?_) (fun h=>?_)<;>(try subst h))|refine lOn Shp.eq (by (first|exact mem0|exact mem1|exact mem2|exact mem3|exact mem4|exact mem5)) rfl ?_|refine lAg Shp.eq (by (first|exact mem0|exact mem1|exact mem2|exact mem3|exact mem4|exact mem5)) rfl rfl ?_|refine newI (fun b hb hn=>?_)|refine stX 0 rfl Siz.eq rfl rfl (by simp[qC]) (by simp) ?_|refine stX 1 rfl Siz.eq rfl rfl (by simp[qC]) (by simp) ?_|refine stX 2 rfl Siz.eq rfl rfl (by simp[qC]) (by simp) ?_|refine stX 3 rfl Siz.eq rfl rfl (by simp[qC]) (by simp) ?_|refine stX 4 rfl Siz.eq rfl rfl (by simp[qC]) (by simp) ?_|refine stX 5 rfl Siz.eq rfl rfl (by simp[qC]) (by simp) ?_|refine stX 6 rfl Siz.eq rfl rfl (by simp[qC]) (by simp) ?_)<;>simp (disch:=omega) only[push_cast,qE,e1,e2,e5,e6]))
    refine mapUpdateX 4 rfl Tryz.underlying140 Tryz.underlying3 hkeys (fun es' clk' hk'=>?_)
    simp (disch:=omega) only[push_cast,qE,e1,e2,e5,e6]
    exact ⟨1,_,rfl,fun w4 hw4=>.inl ⟨rfl,_,⟨[_,_,_,_,_,_,_],⟨hklt,hz',es',clk',keysOf_congr hk' (fun x=>by rw[htk,idsOf_snoc,if_pos h19]; simp[or_comm]),rfl⟩,rfl⟩,hw4.mid [] _ hnew⟩⟩
   ·simp (disch:=omega) only[push_cast,qE,e1,e2,e5,e6]
    exact ⟨1,_,rfl,fun w4 hw4=>.inl ⟨rfl,_,⟨[_,_,_,_,_,_,_],⟨hklt,hz',es,clk,keysOf_congr hkeys (fun x=>by rw[htk,idsOf_snoc,if_neg h19]),rfl⟩,rfl⟩,hw4.mid [] _ hnew⟩⟩
  ·rintro en w4 ⟨rfl,h⟩
   rcases h with ⟨C',⟨_,hz,es,clk,_,rfl⟩,hw4⟩|⟨k,C',⟨hk,hz,hne0,es,clk,rec',bw,cap,cs,hst,hpe,hbw,hrow,rfl⟩,hw4⟩
   ·refine ⟨wb,_,0,rec,rfl,by rw[hrec]; simp,hw4,?_⟩
    have hp:rec.pending=none:=by rw[hrec]
    rw[hp]
    simp (disch:=omega) only[push_cast,qE,e1,e2]
    repeat' (first|((first|refine gT rfl (fun h=>?_) (fun h=>?_)|refine gF rfl (fun h=>?_) (fun h=>?_)|refine cdD (fun h=>?_) (fun h=>?_)|(refine gbT rfl (fun h=>?_) (fun h=>?_)<;>(try subst h))|(refine gbF rfl (fun h=>?_) (fun h=>?_)<;>(try subst h))|(refine cdB (fun h=>?_) (fun h=>?_)<;>(try subst h))|refine lOn Shp.eq (by (first|exact mem0|exact mem1|exact mem2|exact mem3|exact mem4|exact mem5)) rfl ?_|refine lAg Shp.eq (by (first|exact mem0|exact mem1|exact mem2|exact mem3|exact mem4|exact mem5)) rfl rfl ?_|refine newI (fun b hb hn=>?_)|refine stX 0 rfl Siz.eq rfl rfl (by simp[qC]) (by simp) ?_|refine stX 1 rfl Siz.eq rfl rfl (by simp[qC]) (by simp) ?_|refine stX 2 rfl Siz.eq rfl rfl (by simp[qC]) (by simp) ?_|refine stX 3 rfl Siz.eq rfl rfl (by simp[qC]) (by simp) ?_|refine stX 4 rfl Siz.eq rfl rfl (by simp[qC]) (by simp) ?_|refine stX 5 rfl Siz.eq rfl rfl (by simp[qC]) (by simp) ?_|refine stX 6 rfl Siz.eq rfl rfl (by simp[qC]) (by simp) ?_)<;>simp (disch:=omega) only[push_cast,qE,e1,e2]))
    refine ⟨d,1,rfl,rfl,?_⟩
    simp (disch:=omega) only[push_cast,qE,e1,e2]
    refine lAg sh_85 (.tail _ (.tail _ (.tail _ (.tail _ (.tail _ (.head _)))))) rfl rfl ?_
    simp (disch:=omega) only[push_cast,qE,e1,e2]
    refine fun w5 hw5=>⟨_,[],rfl,hw5.end ?_,by simp,?_⟩
    ·intro p hp
     simp only[qM,qI,or_false] at hp
     rcases hp with rfl|rfl|rfl|rfl|rfl|rfl|rfl|hp
     all_goals first|assumption|exact hM p (un hp)
    ·have:checkP l nt=((0:Int),([]:List Nat),(0:Int)):=by
      unfold checkP
      rw[if_neg (by omega),if_neg (by omega),hnone]
      simp only[faultN,firstWrong_none hz]
     rw[this]
     exact ⟨none,0,rfl,⟨rfl,.inl ⟨rfl,rfl⟩⟩,fun _=>⟨rfl,rfl⟩⟩
   ·refine ⟨wb,_,0,rec',rfl,by rw[hst]; simp,hw4,?_⟩
    rw[hpe]
    simp (disch:=omega) only[push_cast,qE,e1,e2]
    repeat' (first|((first|refine gT rfl (fun h=>?_) (fun h=>?_)|refine gF rfl (fun h=>?_) (fun h=>?_)|refine cdD (fun h=>?_) (fun h=>?_)|(refine gbT rfl (fun h=>?_) (fun h=>?_)<;>(try subst h))|(refine gbF rfl (fun h=>?_) (fun h=>?_)<;>(try subst h))|(refine cdB (fun h=>?_) (fun h=>?_)<;>(try subst h))|refine lOn Shp.eq (by (first|exact mem0|exact mem1|exact mem2|exact mem3|exact mem4|exact mem5)) rfl ?_|refine lAg Shp.eq (by (first|exact mem0|exact mem1|exact mem2|exact mem3|exact mem4|exact mem5)) rfl rfl ?_|refine newI (fun b hb hn=>?_)|refine stX 0 rfl Siz.eq rfl rfl (by simp[qC]) (by simp) ?_|refine stX 1 rfl Siz.eq rfl rfl (by simp[qC]) (by simp) ?_|refine stX 2 rfl Siz.eq rfl rfl (by simp[qC]) (by simp) ?_|refine stX 3 rfl Siz.eq rfl rfl (by simp[qC]) (by simp) ?_|refine stX 4 rfl Siz.eq rfl rfl (by simp[qC]) (by simp) ?_|refine stX 5 rfl Siz.eq rfl rfl (by simp[qC]) (by simp) ?_|refine stX 6 rfl Siz.eq rfl rfl (by simp[qC]) (by simp) ?_)<;>simp (disch:=omega) only[push_cast,qE,e1,e2]))
    refine ⟨d,1,rfl,rfl,?_⟩
    simp (disch:=omega) only[push_cast,qE,e1,e2]
    refine lAg sh_85 (.tail _ (.tail _ (.tail _ (.tail _ (.tail _ (.head _)))))) rfl rfl ?_
    simp (disch:=omega) only[push_cast,qE,e1,e2]
    refine fun w5 hw5=>⟨_,[(bw,.cells cs 3 (0,0))],rfl,hw5.drop (List.singleton_sublist.2 (.tail _ (.tail _ (.tail _ (.tail _ (.tail _ (.tail _ (.tail _ (.head _))))))))) ?_,un hbw,?_⟩
    ·intro p hp
     refine .inr ?_
     simp only[qM,qI,or_false] at hp
     rcases hp with rfl|rfl|rfl|rfl|rfl|rfl|rfl|rfl|hp
     all_goals first|assumption|exact hM p (un hp)
    ·have:checkP l nt=(wrongAt (nd 65 [] false l) k,pathAt (nd 65 [] false l) k,(0:Int)):=by
      unfold checkP
      rw[if_neg (by omega),if_neg (by omega),hnone]
      simp only[faultN,firstWrong_at hk hz hne0]
     rw[this]
     exact ⟨_,_,rfl,hrow,fun h=>absurd h (pathAt_ne hk)⟩
end Go.Proofs.YtilejcofleeeiaaGreatDoor
