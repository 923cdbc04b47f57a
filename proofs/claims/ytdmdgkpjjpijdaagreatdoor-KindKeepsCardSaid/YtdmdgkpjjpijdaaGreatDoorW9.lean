/- YtdmdgkpjjpijdaaGreatDoor: walks, part 9: how many fields a schema has. -/
import Derived.Test.YtdmdgkpjjpijdaaGreatDoorW7
namespace Go.Proofs.YtdmdgkpjjpijdaaGreatDoor
open Go Go.K
open Nat renaming reduceEqDiff → qE
open List renaming mem_cons → qM, mem_singleton → qS, mem_nil_iff → qI
set_option maxRecDepth 100000
set_option linter.unusedVariables false
set_option linter.unusedSimpArgs false
set_option maxHeartbeats 4000000
abbrev schV (a:Option Addr) (l:List Fld) (c:Nat) (na:Option Addr) (nt:List NoteT) (nc:Nat):Value:=.agg #[.slice a l.length c,.slice na nt.length nc]
structure SchAt (w:World) (lo:Nat) (a:Option Addr) (l:List Fld) (c:Nat) (na:Option Addr) (nt:List NoteT) (nc:Nat):Prop where
 hr:Rd w lo a l
 hc:l.length≤c
 hc2:c≤9223372036854775807
 hn:RdN w lo na nt
 hnc:nt.length≤nc
 hnc2:nc≤9223372036854775807
theorem RdN.mono {w w':World} {lo:Nat} {a:Option Addr} {l:List NoteT} (h:RdN w lo a l) (hw:∀ k,k < lo→w'.heap[k]?=w.heap[k]?):RdN w' lo a l:=by
 rcases h with rfl|⟨b,off,rfl,hb,h⟩
 ·exact .inl rfl
 ·exact .inr ⟨b,off,rfl,hb,fun i n hi=>let ⟨h1,h2,h3⟩:=h i n hi; ⟨h1,h2,h3.of_block (hw _ hb)⟩⟩
theorem SchAt.sy {w w':World} {lo:Nat} {a:Option Addr} {l:List Fld} {c:Nat} {na:Option Addr} {nt:List NoteT} {nc:Nat} {M:Own} (h:SchAt w lo a l c na nt nc) (hlo:lo≤w.heap.size) (hs:Sy w M w') (hM:∀ p∈M,lo≤p.1):SchAt w' lo a l c na nt nc :=
 ⟨h.hr.sy hlo hs hM,h.hc,h.hc2,h.hn.mono fun k hk=>hs.rest k (Nat.lt_of_lt_of_le hk hlo) (fun hm=>by obtain ⟨p,hp,e⟩:=List.mem_map.1 hm; have:=hM p hp; omega),h.hnc,h.hnc2⟩
def mayP (l:List Fld) (nt:List NoteT):Bool:=(checkP l nt).1 == 0
theorem may_walk (w:World) (hs:SaysAt w) (lo:Nat) (hlo:lo≤w.heap.size) (a:Option Addr) (l:List Fld) (c:Nat) (na:Option Addr) (nt:List NoteT) (nc:Nat) (h:SchAt w lo a l c na nt nc) :
 Calls Tryz.prog 56 #[schV a l c na nt nc] w (Rets w (Is (.bool (mayP l nt)))):=by
 refine enterT (args:=[schV a l c na nt nc]) Tryz.func56 rfl Tryz.ntmps56 (congrArg Array.toList Tryz.results56) (by kernel_rfl) (by simp) (Sy.refl w) ?_
 simp (disch:=omega) only[push_cast,qE,schV]
 refine newI (fun b1 hb1 hn1=>?_)
 have hL:∀ p∈[(qb4 b1 a l.length c na nt.length nc)],w.heap.size≤p.1:=by
  intro p hp; rw[List.mem_singleton.1 hp]; exact hb1
 refine sp ?_
 repeat' (first|((first|((first|refine gT rfl ?_ ?_|refine gF rfl ?_ ?_|refine cdD ?_ ?_)<;>intro h)|((first|refine gbT rfl ?_ ?_|refine gbF rfl ?_ ?_|refine cdB ?_ ?_)<;>intro h<;>(try subst h))|refine lOa Shp.eq rfl ?_|refine lAa Shp.eq rfl rfl ?_|refine newI (fun b hb hn=>?_)|refine sXb Siz.eq rfl rfl ?_)<;>simp (disch:=omega) only[push_cast,qE]))
 have h':=fun w' hw'=>h.sy hlo (w':=w') hw' (fun p hp=>Nat.le_trans hlo (hL p hp))
 refine callV en_17 (cNw (fun w' hw'=>check_walk w' (hs.mono hw' hL) lo (Nat.le_trans hlo hw'.size) l a c (h' w' hw').hr h.hc h.hc2 nt na nc (h' w' hw').hn h.hnc h.hnc2) (fun v M hM hMn ⟨pa,pc,hv,hrow,_⟩=>?_))
 subst hv
 refine sp ?_
 refine finIs (fun p hp=>?_) ?_
 ·rcases List.mem_append.1 hp with hp|hp
  ·exact hM p hp
  ·exact hL p hp
 ·unfold mayP; rfl
theorem checkField_walk (w:World) (hs:SaysAt w) (lo:Nat) (hlo:lo≤w.heap.size) (f:Fld) (a:Option Addr) (c:Nat) (hf:Rd w lo a f.sub) (hfc:f.sub.length≤c) (hc2:c≤9223372036854775807) (hfn:f.nm.length≤9223372036854775807) :
 Calls Tryz.prog 49 #[.agg #[str f.nm,.bool f.nl,i64 f.k,i64 f.wd,i64 f.id,i64 f.ix,.slice a f.sub.length c]] w (RetsN w (fun v M=>∃ pa pc,v=.agg #[i64 (checkP [f] []).1,.slice pa (checkP [f] []).2.1.tail.length pc,i64 (checkP [f] []).2.2]∧(pa=none∧pc=0∧(checkP [f] []).2.1=[]∨∃ b cap cs,pa=some ⟨b,if cap=1 then 0 else 1,none⟩∧pc=cap - 1∧(b,.cells cs 3 (0,0))∈M∧RowIn [(b,.cells cs 3 (0,0))] 3 (.slice (some ⟨b,0,none⟩) (checkP [f] []).2.1.length cap) (checkP [f] []).2.1.length (ints (checkP [f] []).2.1)))):=by
 refine enterT (args:=[.agg #[str f.nm,.bool f.nl,i64 f.k,i64 f.wd,i64 f.id,i64 f.ix,.slice a f.sub.length c]]) Tryz.func49 rfl Tryz.ntmps49 (congrArg Array.toList Tryz.results49) (by kernel_rfl) (by simp) (Sy.refl w) ?_
 refine sp ?_
 refine newI (fun b1 hb1 hn1=>?_)
 refine sp ?_
 refine newI (fun b2 hb2 hn2=>?_)
 refine sp ?_
 refine lAg sh_37 (.tail _ (.head _)) rfl rfl ?_
 refine sp ?_
 refine bs_24_1 (newI fun b3 hb3 hn3=>?_)
 have hL:∀ p∈[(qb0 b3 f a c),(b2,Obj.cells #[.int .i64 0,.slice none 0 0,.int .i64 0] 51 (0,0)),(qb0 b1 f a c)],w.heap.size≤p.1:=by
  intro p hp
  simp only[qM,qI,or_false] at hp
  rcases hp with rfl|rfl|rfl<;>assumption
 refine sp ?_
 refine callV en_17 (callX_newR (fun w' hw'=>check_walk w' (hs.mono hw' hL) w'.heap.size (Nat.le_refl _) [f] (some ⟨b3,0,none⟩) 1 (.cons (hw'.lt (.head _)) hfc hfn hc2 (At.of_own hw' (.head _) rfl) ((hf.sy hlo hw' (fun p hp=>Nat.le_trans hlo (hL p hp))).weaken (Nat.le_trans hlo hw'.size)) (.nil _)) (by simp) (by omega) [] none 0 (.inl rfl) (by simp) (by omega)) (fun v M hM hMn ⟨pa,pc,hv,hrow,hnil⟩=>?_))
 subst hv
 refine sp ?_
 refine newI (fun b4 hb4 hn4=>?_)
 refine sp ?_
 repeat' (first|((first|((first|refine gT rfl ?_ ?_|refine gF rfl ?_ ?_|refine cdD ?_ ?_)<;>intro h)|((first|refine gbT rfl ?_ ?_|refine gbF rfl ?_ ?_|refine cdB ?_ ?_)<;>intro h<;>(try subst h))|refine lOa Shp.eq rfl ?_|refine lAa Shp.eq rfl rfl ?_|refine newI (fun b hb hn=>?_)|refine sXb Siz.eq rfl rfl ?_)<;>simp (disch:=omega) only[push_cast,qE]))
 generalize checkP [f] []=r at *
 have hnew:∀ (x y z u:Obj),∀ p∈[(b4,x),(b3,y),(b2,z),(b1,u)],w.heap.size≤p.1:=by
  intro x y z u p hp
  simp only[qM,qI,or_false] at hp
  rcases hp with rfl|rfl|rfl|rfl<;>assumption
 rw[Vc]
 refine sp ?_
 refine cdD (fun hpos=>?_) (fun hneg=>?_)
 ·obtain ⟨_,⟨he,h0⟩|⟨b,cap,cs,he,hm,h1,h2,h3,h4⟩⟩:=hrow
  ·omega
  injection he with he1 he2 he3
  subst he1; subst he3
  refine sp ?_
  repeat' (first|((first|((first|refine gT rfl ?_ ?_|refine gF rfl ?_ ?_|refine cdD ?_ ?_)<;>intro h)|((first|refine gbT rfl ?_ ?_|refine gbF rfl ?_ ?_|refine cdB ?_ ?_)<;>intro h<;>(try subst h))|refine lOa Shp.eq rfl ?_|refine lAa Shp.eq rfl rfl ?_|refine newI (fun b hb hn=>?_)|refine sXb Siz.eq rfl rfl ?_)<;>simp (disch:=omega) only[push_cast,qE]))
  refine fun w' hw'=>⟨_,M,rfl,hw'.left (A:=[_,_,_,_]) (hnew _ _ _ _),hM,some ⟨b,if pc=1 then 0 else 1,none⟩,pc - 1,?_,.inr ⟨b,pc,cs.toArray,rfl,rfl,hm,?_⟩⟩
  ·rw[List.length_tail]
  ·exact ⟨by simp[ints],.inr ⟨b,pc,cs,rfl,.head _,h1,h2,h3,h4⟩⟩
 ·refine sp ?_
  repeat' (first|((first|((first|refine gT rfl ?_ ?_|refine gF rfl ?_ ?_|refine cdD ?_ ?_)<;>intro h)|((first|refine gbT rfl ?_ ?_|refine gbF rfl ?_ ?_|refine cdB ?_ ?_)<;>intro h<;>(try subst h))|refine lOa Shp.eq rfl ?_|refine lAa Shp.eq rfl rfl ?_|refine newI (fun b hb hn=>?_)|refine sXb Siz.eq rfl rfl ?_)<;>simp (disch:=omega) only[push_cast,qE]))
  have hr0:r.2.1=[]:=List.eq_nil_of_length_eq_zero (by omega)
  obtain ⟨rfl,rfl⟩:=hnil hr0
  refine fun w' hw'=>⟨_,M,rfl,hw'.left (A:=[_,_,_,_]) (hnew _ _ _ _),hM,none,0,?_,.inl ⟨rfl,rfl,hr0⟩⟩
  rw[hr0]
  rfl
theorem one_walk (w:World) (nm:List UInt8):Calls Tryz.prog 30 #[str nm] w (Rets w (Is (.agg #[str nm,.bool false,i64 6,i64 0,i64 0,i64 0,.slice none 0 0]))):=by
 refine enterT (args:=[str nm]) Tryz.func30 rfl Tryz.ntmps30 (congrArg Array.toList Tryz.results30) (by kernel_rfl) (by simp) (Sy.refl w) ?_
 refine sp ?_
 repeat' (first|((first|((first|refine gT rfl ?_ ?_|refine gF rfl ?_ ?_|refine cdD ?_ ?_)<;>intro h)|((first|refine gbT rfl ?_ ?_|refine gbF rfl ?_ ?_|refine cdB ?_ ?_)<;>intro h<;>(try subst h))|refine lOa Shp.eq rfl ?_|refine lAa Shp.eq rfl rfl ?_|refine newI (fun b hb hn=>?_)|refine sXb Siz.eq rfl rfl ?_)<;>simp (disch:=omega) only[push_cast,qE])|(first|rw[Vc]|rw[Vb])<;>(try simp (disch:=omega) only[push_cast,qE]))
 exact finIs (by simp only[qS]; rintro p rfl; assumption) rfl
theorem find1_walk (w:World) (f:Fld) (a:Option Addr) (c:Nat) (bp:Nat) (nm:List UInt8) (h:At w bp 0 [str nm]) :
 Calls Tryz.prog 70 #[.agg (f.cells a c).toArray,.pointer (some ⟨bp,0,none⟩)] w (Rets w (Is (.bool (decide (f.nm=nm))))):=by
 refine enterT (args:=[.agg (f.cells a c).toArray,.pointer (some ⟨bp,0,none⟩)]) Tryz.func70 rfl Tryz.ntmps70 (congrArg Array.toList Tryz.results70) (by kernel_rfl) (by simp) (Sy.refl w) ?_
 have hlt:=h.lt
 simp (disch:=omega) only[push_cast,qE,Fld.cells]
 repeat' (first|((first|((first|refine gT rfl ?_ ?_|refine gF rfl ?_ ?_|refine cdD ?_ ?_)<;>intro h)|((first|refine gbT rfl ?_ ?_|refine gbF rfl ?_ ?_|refine cdB ?_ ?_)<;>intro h<;>(try subst h))|refine lOa Shp.eq rfl ?_|refine lAa Shp.eq rfl rfl ?_|refine newI (fun b hb hn=>?_)|refine sXb Siz.eq rfl rfl ?_)<;>simp (disch:=omega) only[push_cast,qE])|(first|rw[Vc]|rw[Vb])<;>(try simp (disch:=omega) only[push_cast,qE]))
 refine ldF (by exact sh_9) h (out_of (by simp only[qS]; rintro p rfl; simp only; omega)) ?_
 refine sp ?_
 exact finIs (by simp only[qS]; rintro p rfl; assumption) rfl
def findP (l:List Fld) (nt:List NoteT) (nm:List UInt8):Int:=if mayP l nt then idxF (fun f=>decide (f.nm=nm)) l else -1
theorem find_walk (w:World) (hs:SaysAt w) (lo:Nat) (hlo:lo≤w.heap.size) (a:Option Addr) (l:List Fld) (c:Nat) (na:Option Addr) (nt:List NoteT) (nc:Nat) (h:SchAt w lo a l c na nt nc) (nm:List UInt8) :
 Calls Tryz.prog 31 #[schV a l c na nt nc,str nm] w (Rets w (Is (i64 (findP l nt nm)))):=by
 refine enterT (args:=[schV a l c na nt nc,str nm]) Tryz.func31 rfl Tryz.ntmps31 (congrArg Array.toList Tryz.results31) (by kernel_rfl) (by simp) (Sy.refl w) ?_
 simp (disch:=omega) only[push_cast,qE,schV]
 refine newI (fun b1 hb1 hn1=>?_)
 refine sp ?_
 refine newI (fun b2 hb2 hn2=>?_)
 have hL:∀ p∈[(b2,Obj.cells #[str nm] 9 (0,0)),(qb4 b1 a l.length c na nt.length nc)],w.heap.size≤p.1:=by
  intro p hp
  simp only[qM,qI,or_false] at hp
  rcases hp with rfl|rfl<;>assumption
 refine sp ?_
 repeat' (first|((first|((first|refine gT rfl ?_ ?_|refine gF rfl ?_ ?_|refine cdD ?_ ?_)<;>intro h)|((first|refine gbT rfl ?_ ?_|refine gbF rfl ?_ ?_|refine cdB ?_ ?_)<;>intro h<;>(try subst h))|refine lOa Shp.eq rfl ?_|refine lAa Shp.eq rfl rfl ?_|refine newI (fun b hb hn=>?_)|refine sXb Siz.eq rfl rfl ?_)<;>simp (disch:=omega) only[push_cast,qE]))
 have h':=fun w' hw'=>h.sy hlo (w':=w') hw' (fun p hp=>Nat.le_trans hlo (hL p hp))
 refine callV en_56 (cIs (fun w' hw'=>may_walk w' (hs.mono hw' hL) lo (Nat.le_trans hlo hw'.size) a l c na nt nc (h' w' hw')) ?_)
 refine sp ?_
 rw[Vc]
 refine sp ?_
 refine cdB (fun hm=>?_) (fun hm=>?_)
 ·have hm':mayP l nt=false:=by simpa using hm
  refine sp ?_
  exact finIs hL (by simp[findP,hm'])
 ·have hm':mayP l nt=true:=by simpa using hm
  refine sp ?_
  repeat' (first|((first|((first|refine gT rfl ?_ ?_|refine gF rfl ?_ ?_|refine cdD ?_ ?_)<;>intro h)|((first|refine gbT rfl ?_ ?_|refine gbF rfl ?_ ?_|refine cdB ?_ ?_)<;>intro h<;>(try subst h))|refine lOa Shp.eq rfl ?_|refine lAa Shp.eq rfl rfl ?_|refine newI (fun b hb hn=>?_)|refine sXb Siz.eq rfl rfl ?_)<;>simp (disch:=omega) only[push_cast,qE]))
  refine callV en_69 (cIs (fun w' hw'=>indexFunc_walk w' lo l a c (h' w' hw').hr (Nat.le_trans hlo hw'.size) h.hc h.hc2 70 _ (fun g=>decide (g.nm=nm)) en_70 (fun w'' hw'' g ga gc hg=>find1_walk w'' g ga gc b2 nm ?_)) ?_)
  ·exact (At.of_own hw' (.head _) rfl).of_block (hw''.rest _ (hw'.lt (.head _)) (by simp))
  refine sp ?_
  exact finIs hL (by simp[findP,hm'])
theorem nd_le:∀ (d:Nat) (path:List Nat) (ind:Bool) (l:List Fld),(nd d path ind l).length≤(nd (d+1) path ind l).length
 | 0,_,_,_=>by simp[nd]
 | d+1,path,ind,l=>by
  rw[nd,nd,List.length_flatMap,List.length_flatMap]
  have:∀ (z:List (Fld×Nat)),(z.map fun p=>((⟨path++[p.2],l.take p.2,p.1,ind⟩:FNode)::nd d (path++[p.2]) (ind || p.1.k == 19) p.1.sub).length).sum≤(z.map fun p=>((⟨path++[p.2],l.take p.2,p.1,ind⟩:FNode)::nd (d+1) (path++[p.2]) (ind || p.1.k == 19) p.1.sub).length).sum:=by
   intro z
   induction z with
   | nil=>simp
   | cons p z ih =>
    simp only[List.map_cons,List.sum_cons,List.length_cons] at ih ⊢
    have:=nd_le d (path++[p.2]) (ind || p.1.k == 19) p.1.sub
    omega
  exact this _
theorem firstWrong_zero {ns:List FNode} (h:(faultN ns).1=0):∀ k,wrongAt ns k=0:=by
 intro k
 rcases Nat.lt_or_ge k ns.length with hk|hk
 ·cases hf:firstWrong ns with
  | none =>
   unfold firstWrong at hf
   rw[List.find?_eq_none] at hf
   simpa using hf k (List.mem_range.2 hk)
  | some j =>
   unfold firstWrong at hf
   have h2:=List.find?_some hf
   unfold faultN firstWrong at h
   rw[hf] at h
   simp only at h
   simp[h] at h2
 ·unfold wrongAt; rw[List.getElem?_eq_none hk]
theorem checkP_zero {l:List Fld} {nt:List NoteT} (h:mayP l nt=true):l.length≤32∧nt.length≤16∧nt.findIdx? longNote=none∧∀ k,wrongAt (nd 65 [] false l) k=0:=by
 unfold mayP at h
 have h0:(checkP l nt).1=0:=by simpa using h
 unfold checkP at h0
 split at h0
 ·cases h0
 ·split at h0
  ·cases h0
  ·split at h0
   ·cases h0
   ·exact ⟨by omega,by omega,by assumption,firstWrong_zero h0⟩
theorem wrongN_many {pl:Nat} {ah:List Fld} {f:Fld} {ind:Bool} {k:Int} {S:List Int} (h:wrongN pl ah f ind k S=0):pl≤64∧k < 256:=by
 unfold wrongN at h
 split at h
 ·cases h
 ·split at h
  ·cases h
  ·omega
theorem few_nodes {l:List Fld} {nt:List NoteT} (h:mayP l nt=true):(nd 65 [] false l).length≤256:=by
 rcases Nat.lt_or_ge 256 (nd 65 [] false l).length with hlt|hge
 ·have h1:=(checkP_zero h).2.2.2 256
  unfold wrongAt at h1
  rw[List.getElem?_eq_getElem hlt] at h1
  have:=(wrongN_many h1).2
  omega
 ·exact hge
def countP (l:List Fld) (nt:List NoteT):Nat:=if mayP l nt then (nd 64 [] false l).length else 0
theorem count_walk (w:World) (hs:SaysAt w) (lo:Nat) (hlo:lo≤w.heap.size) (a:Option Addr) (l:List Fld) (c:Nat) (na:Option Addr) (nt:List NoteT) (nc:Nat) (h:SchAt w lo a l c na nt nc) :
 Calls Tryz.prog 19 #[schV a l c na nt nc] w (Rets w (Is (i64 (countP l nt)))):=by
 refine enterM (args:=[schV a l c na nt nc]) Tryz.func19 rfl Tryz.ntmps19 (congrArg Array.toList Tryz.results19) (by kernel_rfl) (by simp) (Sy.refl w) ?_
 simp (disch:=omega) only[push_cast,qE,schV]
 refine newI (fun b1 hb1 hn1=>?_)
 refine sp ?_
 refine newI (fun b3 hb3 hn3=>?_)
 have hL:∀ x,∀ p∈[(b3,Obj.cells #[x] 3 (0,0)),(qb4 b1 a l.length c na nt.length nc)],w.heap.size≤p.1:=by
  intro x p hp
  simp only[qM,qI,or_false] at hp
  rcases hp with rfl|rfl<;>assumption
 refine sp ?_
 repeat' (first|((first|((first|refine gT rfl ?_ ?_|refine gF rfl ?_ ?_|refine cdD ?_ ?_)<;>intro h)|((first|refine gbT rfl ?_ ?_|refine gbF rfl ?_ ?_|refine cdB ?_ ?_)<;>intro h<;>(try subst h))|refine lOa Shp.eq rfl ?_|refine lAa Shp.eq rfl rfl ?_|refine newI (fun b hb hn=>?_)|refine sXb Siz.eq rfl rfl ?_)<;>simp (disch:=omega) only[push_cast,qE]))
 have h':=fun w' x hw'=>h.sy hlo (w':=w') hw' (fun p hp=>Nat.le_trans hlo (hL x p hp))
 refine callV en_56 (cIs (fun w' hw'=>may_walk w' (hs.mono hw' (hL _)) lo (Nat.le_trans hlo hw'.size) a l c na nt nc (h' w' _ hw')) ?_)
 refine sp ?_
 rw[Vc]
 refine sp ?_
 refine cdB (fun hm=>?_) (fun hm=>?_)
 ·have hfew:(nd 64 [] false l).length≤256:=Nat.le_trans (nd_le 64 [] false l) (few_nodes hm)
  refine sp ?_
  repeat' (first|((first|((first|refine gT rfl ?_ ?_|refine gF rfl ?_ ?_|refine cdD ?_ ?_)<;>intro h)|((first|refine gbT rfl ?_ ?_|refine gbF rfl ?_ ?_|refine cdB ?_ ?_)<;>intro h<;>(try subst h))|refine lOa Shp.eq rfl ?_|refine lAa Shp.eq rfl rfl ?_|refine newI (fun b hb hn=>?_)|refine sXb Siz.eq rfl rfl ?_)<;>simp (disch:=omega) only[push_cast,qE]))
  refine callV en_54 (cNw (fun w' _=>all_walk w' a l.length c 64) (fun v M hM hMn ⟨bl,bo,hne,hv,hMM⟩=>?_))
  subst hv; subst hMM
  refine sp ?_
  rw[Vb]
  refine sp ?_
  refine forgetS (fun e=>e 1=.pointer (some ⟨b1,0,none⟩)∧e 3=.pointer (some ⟨b3,0,none⟩)∧e 8=.func (.func 83) #[] #[.pointer (some ⟨bo,0,none⟩),.pointer (some ⟨bl,0,none⟩)]) ⟨rfl,rfl,rfl⟩ ?_
  rintro e ⟨e1,e3,e8⟩
  refine rangeY rfl e8 en_83 (fun fn tm d lr rec hrec htm hdl hd hlr hdn hlrn w' hw'=>?_)
  refine (all1_walk w lo hlo (nd 64 [] false l)
   (fun k C=>k≤(nd 64 [] false l).length∧C=[(lr,.loop rec),(d,.deferred (some [])),(qb3 b3 k),(qb4 b1 a l.length c na nt.length nc)])
   (fun k C=>False)
   (.func (.yield lr) #[] #[]) rfl rfl ⟨(by intro g f c h; cases h),?_,?_⟩ 64 (by omega) (by omega) w' [(lr,.loop rec),(d,.deferred (some [])),(qb13 b3),(qb4 b1 a l.length c na nt.length nc)] [(bo,.cells #[i64 64] 3 (0,0)),(qb11 bl a l.length c)] bo bl l a c
   (hw'.perm (((List.perm_append_comm (l₁:=[(bo,Obj.cells #[i64 64] 3 (0,0)),(qb11 bl a l.length c)])).cons _).cons _)) ⟨Nat.zero_le _,rfl⟩ hM (.head _) (.tail _ (.head _)) h.hr h.hc h.hc2 rfl).mono ?_
  ·rintro k C ⟨_,rfl⟩ p hp
   simp only[qM,qI,or_false] at hp
   rcases hp with rfl|rfl|rfl|rfl<;>assumption
  ·rintro k n hkn C M bw cap cs fa aa fc ac ⟨hk,rfl⟩ hbw hpc hcm hcl hct hrf hfc hfc2 hnm hra hac hac2 hpl hM2 w2 hw2
   have hklt:k < (nd 64 [] false l).length:=(List.getElem?_eq_some_iff.1 hkn).1
   subst hrec
   refine roundX (i:=0) rfl htm rfl (by simp) (by kernel_rfl) (by kernel_rfl) ?_ w2 hw2
   simp (disch:=omega) only[push_cast,qE,e1,e3,e8,placeV]
   refine ⟨0,rfl,?_⟩
   simp (disch:=omega) only[push_cast,qE,e1,e3,e8]
   rw[Vb]
   simp (disch:=omega) only[push_cast,qE,e1,e3,e8]
   repeat' (first|((first|((first|refine gT rfl ?_ ?_|refine gF rfl ?_ ?_|refine cdD ?_ ?_)<;>intro h)|((first|refine gbT rfl ?_ ?_|refine gbF rfl ?_ ?_|refine cdB ?_ ?_)<;>intro h<;>(try subst h))|refine lOa Shp.eq rfl ?_|refine lAa Shp.eq rfl rfl ?_|refine newI (fun b hb hn=>?_)|refine sXb Siz.eq rfl rfl ?_)<;>simp (disch:=omega) only[push_cast,qE,e1,e3,e8]))
   exact ⟨0,_,rfl,fun w4 hw4=>.inl ⟨rfl,_,⟨[_,_,_,_],⟨hklt,rfl⟩,rfl⟩,hw4⟩⟩
  ·rintro en w4 ⟨rfl,h⟩
   rcases h with ⟨C',⟨_,rfl⟩,hw4⟩|⟨k,C',hJ,hw4⟩
   ·refine ⟨w,_,0,rec,rfl,by rw[hrec]; simp,hw4,?_⟩
    have hp:rec.pending=none:=by rw[hrec]
    rw[hp]
    simp (disch:=omega) only[push_cast,qE,e1,e3]
    repeat' (first|((first|((first|refine gT rfl ?_ ?_|refine gF rfl ?_ ?_|refine cdD ?_ ?_)<;>intro h)|((first|refine gbT rfl ?_ ?_|refine gbF rfl ?_ ?_|refine cdB ?_ ?_)<;>intro h<;>(try subst h))|refine lOa Shp.eq rfl ?_|refine lAa Shp.eq rfl rfl ?_|refine newI (fun b hb hn=>?_)|refine sXb Siz.eq rfl rfl ?_)<;>simp (disch:=omega) only[push_cast,qE,e1,e3]))
    refine ⟨d,1,rfl,rfl,?_⟩
    simp (disch:=omega) only[push_cast,qE,e1,e3]
    refine finIs ?_ (by simp[countP,hm])
    intro p hp
    simp only[qM,qI,or_false] at hp
    rcases hp with rfl|rfl|rfl|rfl|hp
    all_goals first|assumption|exact hM p (un hp)
   ·exact hJ.elim
 ·have hm':mayP l nt=false:=by simpa using hm
  refine sp ?_
  repeat' (first|((first|((first|refine gT rfl ?_ ?_|refine gF rfl ?_ ?_|refine cdD ?_ ?_)<;>intro h)|((first|refine gbT rfl ?_ ?_|refine gbF rfl ?_ ?_|refine cdB ?_ ?_)<;>intro h<;>(try subst h))|refine lOa Shp.eq rfl ?_|refine lAa Shp.eq rfl rfl ?_|refine newI (fun b hb hn=>?_)|refine sXb Siz.eq rfl rfl ?_)<;>simp (disch:=omega) only[push_cast,qE]))
  exact finIs (hL _) (by simp[countP,hm'])
end Go.Proofs.YtdmdgkpjjpijdaaGreatDoor
