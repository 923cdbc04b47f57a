/- YtdmdgkpjjpijdaaGreatDoor: walks, part 201: the program's At and Parts: what they give lies in blocks of its own. -/
import Derived.Test.YtdmdgkpjjpijdaaGreatDoorW204
namespace Go.Proofs.YtdmdgkpjjpijdaaGreatDoor
open Go Go.K
open Nat renaming reduceEqDiff → qE
open List renaming mem_cons → qM, mem_nil_iff → qI, getElem?_eq_getElem → qH
set_option maxRecDepth 100000
set_option linter.unusedVariables false
set_option linter.unusedSimpArgs false
set_option maxHeartbeats 1000000
abbrev f0:Fld:=.mk [] false 0 0 0 0 []
abbrev rT (l:List Fld):Fld:=.mk [] false 0 0 0 0 l
def goP:Fld→List Int→Option Fld
 | f,[]=>some f
 | f,i::r=>if 0≤i∧i < f.sub.length then match f.sub[i.toNat]? with
  | some g=>goP g r
  | none=>none
  else none
theorem goP_append:∀ (p:List Int) (f:Fld) (q:List Int),goP f (p++q)=(goP f p).bind fun g=>goP g q
 | [],f,q=>rfl
 | i::p,f,q=>by
  rw[List.cons_append,goP,goP]
  split
  ·cases f.sub[i.toNat]? with
   | none=>rfl
   | some g=>exact goP_append p g q
  ·rfl
def atP (l:List Fld) (nt:List NoteT) (p:List Int):Fld×Int:=if mayP l nt=false then (f0,5) else if p=[] then (f0,1) else match goP (rT l) p with
 | some f=>(f,0)
 | none=>(f0,2)
theorem take_go {f:Fld} {p:List Int} {i:Nat} {k:Int} {g:Fld} (hk:p[i]?=some k) (hg:goP f (p.take i)=some g):goP f (p.take (i+1))=goP g [k]:=by
 rw[List.take_add_one,hk,Option.toList_some,goP_append,hg]
 rfl
theorem go_none {f:Fld} {p:List Int} {i:Nat} (h:goP f (p.take i)=none):goP f p=none:=by
 rw[← List.take_append_drop i p,goP_append,h]
 rfl
theorem okS_go:∀ (p:List Int) (f g:Fld),okS f=true→goP f p=some g→okS g=true
 | [],f,g,h,hg=>by cases hg; exact h
 | i::p,f,g,h,hg=>by
  rw[goP] at hg
  split at hg
  ·cases hs:f.sub[i.toNat]? with
   | none=>rw[hs] at hg; cases hg
   | some x =>
    rw[hs] at hg
    exact okS_go p x g (okT_get ((okS_iff f).1 h).2 hs) hg
  ·cases hg
structure AtI (w0:World) (lo b2 b4 b6:Nat) (a:Option Addr) (l:List Fld) (c:Nat) (na:Option Addr) (nt:List NoteT) (nc:Nat) (pa:Option Addr) (p:List Int) (pc:Nat) (i:Nat) (wb:World) (e:Env) (ds:List Deferred) (L:Own):Prop where
 hw:wb=w0
 hds:ds=[]
 o:∃ g ga gc,L=[(qb0 b6 g ga gc),(qb9 b4),(qb4 b2 a l.length c na nt.length nc)]∧goP (rT l) (p.take i)=some g∧Rd w0 lo ga g.sub∧g.sub.length≤gc∧gc≤9223372036854775807∧g.nm.length≤9223372036854775807
 il:i≤p.length
 h4:e 4=.pointer (some ⟨b4,0,none⟩)
 h6:e 6=.pointer (some ⟨b6,0,none⟩)
 h23:e 23=.slice pa p.length pc
 h24:e 24=i64 p.length
 h25:e 25=i64 i
theorem nd_one (d:Nat) (f:Fld):nd (d+1) [] false [f]=⟨[0],[],f,false⟩::nd d [0] (f.k == 19) f.sub:=by
 simp[nd]
theorem nd_path_lt:∀ (d:Nat) (path:List Nat) (ind:Bool) (l:List Fld) (x:FNode),x∈nd d path ind l→path.length < x.path.length
 | 0,path,ind,l,x,h=>by simp[nd] at h
 | d+1,path,ind,l,x,h=>by
  simp only[nd,List.mem_flatMap,qM] at h
  obtain ⟨p,_,rfl|h⟩:=h
  ·simp
  ·have:=nd_path_lt d _ _ _ x h
   simp only[List.length_append,List.length_cons,List.length_nil] at this
   omega
def subNl (f:Fld):Bool:=(f.sub.head?.map Fld.nl).getD false
def holdK (f:Fld):Fld:=.mk [97] (decide (f.k=1) || (decide (f.k=20) && (decide (0 < f.sub.length) && subNl f))) f.k f.wd f.id f.ix f.sub
def holdR (f:Fld):Fld:=.mk [97] (decide (f.k=1) || (decide (f.k=20) && (decide (f.sub.length=1) && subNl f))) f.k f.wd f.id f.ix f.sub
def mayT (f:Fld):Bool:=mayP [holdK f] []
theorem may_shaped {f:Fld} {nt:List NoteT} (h:mayP [f] nt=true):shapedF f:=(node_may h ⟨[0],[],f,false⟩ (by rw[nd_one]; exact .head _)).2
theorem mayT_shaped {f:Fld} (h:mayT f=true):shapedF f:=may_shaped (f:=holdK f) h
theorem hold_same {f:Fld} (h:f.k=20→f.sub.length=1):holdR f=holdK f:=by
 unfold holdR holdK
 by_cases h1:f.k=20
 ·rw[h h1]; rfl
 ·rw[decide_eq_false h1,Bool.false_and,Bool.false_and]
theorem runs_one {f:Fld} (h:shapedF f) (hk:f.k=20):f.sub.length=1:=by
 obtain ⟨_,_,_,h4,h5⟩:=h
 rw[hk] at h4 h5
 simp[leastK,mostK] at h4 h5
 omega
theorem hold_may (f:Fld):mayP [holdR f] []=mayT f:=by
 by_cases h:f.k=20→f.sub.length=1
 ·rw[hold_same h]; rfl
 ·have hk:f.k=20∧f.sub.length≠1:=by
   rcases Decidable.em (f.k=20) with h1|h1
   ·exact ⟨h1,fun h2=>h fun _=>h2⟩
   ·exact absurd (fun h2=>absurd h2 h1) h
  have h1:mayP [holdR f] []=false:=by
   cases h1:mayP [holdR f] [] with
   | false=>rfl
   | true=>exact absurd (runs_one (f:=f) (may_shaped (f:=holdR f) h1) hk.1) hk.2
  have h2:mayT f=false:=by
   cases h2:mayT f with
   | false=>rfl
   | true=>exact absurd (runs_one (f:=f) (may_shaped (f:=holdK f) h2) hk.1) hk.2
  rw[h1,h2]
def endsF:Fld:=.mk [101,110,100,115] false 5 0 0 0 []
def partsP (f:Fld):List Fld:=if mayT f=true∧f.k≠19 then (if f.k=20 then endsF::f.sub else f.sub) else []
structure TyAt (w:World) (lo:Nat) (f:Fld) (a:Option Addr) (c:Nat):Prop where
 hr:Rd w lo a f.sub
 hc:f.sub.length≤c
 hc2:c≤9223372036854775807
theorem TyAt.sy {w w':World} {lo:Nat} {f:Fld} {a:Option Addr} {c:Nat} {M:Own} (h:TyAt w lo f a c) (hlo:lo≤w.heap.size) (hs:Sy w M w') (hM:∀ p∈M,w.heap.size≤p.1):TyAt w' lo f a c :=
 ⟨h.hr.sy hlo hs (fun p hp=>Nat.le_trans hlo (hM p hp)),h.hc,h.hc2⟩
abbrev tyV (f:Fld) (a:Option Addr) (c:Nat):Value:=.agg (f.tcells a c).toArray
theorem holder_walk (w:World) (lo:Nat) (hlo:lo≤w.heap.size) (f:Fld) (a:Option Addr) (c:Nat) (hT:TyAt w lo f a c) :
 Calls Tryz.prog 97 #[tyV f a c] w (Rets w (Is (.agg ((holdK f).cells a c).toArray))):=by
 refine enterT (args:=[tyV f a c]) Tryz.func97 rfl Tryz.ntmps97 (congrArg Array.toList Tryz.results97) (by kernel_rfl) (by simp) (Sy.refl w) ?_
 simp (disch:=omega) only[push_cast,qE,Fld.tcells]
 refine newI (fun b1 hb1 hn1=>?_)
 simp (disch:=omega) only[push_cast,qE,Fld.tcells]
 refine newI (fun b2 hb2 hn2=>?_)
 simp (disch:=omega) only[push_cast,qE,Fld.tcells]
 refine lAg Shp.eq mem1 rfl rfl ?_
 refine sp ?_
 refine newI (fun b3 hb3 hn3=>?_)
 refine sp ?_
 refine sXa 0 rfl Siz.eq rfl rfl ?_
 refine sp ?_
 have hL:∀ x y z:Obj,∀ p∈[(b3,x),(b2,y),(b1,z)],w.heap.size≤p.1:=fun x y z p hp=>by
  simp only[qM,qI,or_false] at hp
  rcases hp with rfl|rfl|rfl<;>assumption
 refine lOn Shp.eq mem2 rfl ?_
 refine sp ?_
 have hval:∀ v:Bool,v=(holdK f).nl→Value.agg #[str [97],.bool v,i64 f.k,i64 f.wd,i64 f.id,i64 f.ix,.slice a f.sub.length c]=.agg ((holdK f).cells a c).toArray:=fun v hv=>by subst hv; rfl
 by_cases h1:f.k=1
 ·have d1:decide (f.k=1)=true:=decide_eq_true h1
  simp (disch:=omega) only[push_cast,qE,d1]
  repeat' (first|((first|((first|refine gT rfl ?_ ?_|refine gF rfl ?_ ?_|refine cdD ?_ ?_)<;>intro h)|((first|refine gbT rfl ?_ ?_|refine gbF rfl ?_ ?_|refine cdB ?_ ?_)<;>intro h<;>(try subst h))|refine lOa Shp.eq rfl ?_|refine lAa Shp.eq rfl rfl ?_|refine newI (fun b hb hn=>?_)|refine sXb Siz.eq rfl rfl ?_)<;>simp (disch:=omega) only[push_cast,qE,d1])|(first|rw[Vc]|rw[Vb])<;>(try simp (disch:=omega) only[push_cast,qE,d1]))
  exact finIs (hL _ _ _) (hval _ (by simp[holdK,Fld.nl,h1]))
 have d1:decide (f.k=1)=false:=decide_eq_false h1
 simp (disch:=omega) only[push_cast,qE,d1]
 repeat' (first|((first|((first|refine gT rfl ?_ ?_|refine gF rfl ?_ ?_|refine cdD ?_ ?_)<;>intro h)|((first|refine gbT rfl ?_ ?_|refine gbF rfl ?_ ?_|refine cdB ?_ ?_)<;>intro h<;>(try subst h))|refine lOa Shp.eq rfl ?_|refine lAa Shp.eq rfl rfl ?_|refine newI (fun b hb hn=>?_)|refine sXb Siz.eq rfl rfl ?_)<;>simp (disch:=omega) only[push_cast,qE,d1])|(first|rw[Vc]|rw[Vb])<;>(try simp (disch:=omega) only[push_cast,qE,d1]))
 rotate_left
 ·exact finIs (hL _ _ _) (hval _ (by simp_all [holdK,Fld.nl]))
 ·exact finIs (hL _ _ _) (hval _ (by simp_all [holdK,Fld.nl]))
 have hpos:0 < f.sub.length:=by omega
 obtain ⟨g,l,hl⟩:∃ g l,f.sub=g::l:=List.exists_cons_of_ne_nil (fun h0=>by rw[h0] at hpos; simp at hpos)
 have hr:=hT.hr
 rw[hl] at hr
 obtain ⟨b',off,rfl,hb'⟩:=hr.some_of
 obtain ⟨a',c',x1,x2,x3⟩:=hr.get 0 rfl
 refine sp ?_
 refine ldF Shp.eq (x2.sub 1 [.bool g.nl] rfl) (out_of (fun p hp=>Nat.lt_of_lt_of_le (Nat.lt_of_lt_of_le x1 hlo) (hL _ _ _ p hp))) ?_
 refine sp ?_
 repeat' (first|((first|((first|refine gT rfl ?_ ?_|refine gF rfl ?_ ?_|refine cdD ?_ ?_)<;>intro h)|((first|refine gbT rfl ?_ ?_|refine gbF rfl ?_ ?_|refine cdB ?_ ?_)<;>intro h<;>(try subst h))|refine lOa Shp.eq rfl ?_|refine lAa Shp.eq rfl rfl ?_|refine newI (fun b hb hn=>?_)|refine sXb Siz.eq rfl rfl ?_)<;>simp (disch:=omega) only[push_cast,qE])|(first|rw[Vc]|rw[Vb])<;>(try simp (disch:=omega) only[push_cast,qE]))
 refine finIs (hL _ _ _) (hval _ ?_)
 simp_all [holdK,Fld.nl,subNl]
theorem mayType_walk (w:World) (hs:SaysAt w) (lo:Nat) (hlo:lo≤w.heap.size) (f:Fld) (a:Option Addr) (c:Nat) (hT:TyAt w lo f a c) :
 Calls Tryz.prog 66 #[tyV f a c] w (Rets w (Is (.bool (mayT f)))):=by
 refine enterT (args:=[tyV f a c]) Tryz.func66 rfl Tryz.ntmps66 (congrArg Array.toList Tryz.results66) (by kernel_rfl) (by simp) (Sy.refl w) ?_
 simp (disch:=omega) only[push_cast,qE,Fld.tcells]
 refine newI (fun b1 hb1 hn1=>?_)
 simp (disch:=omega) only[push_cast,qE,Fld.tcells]
 refine lAg Shp.eq mem0 rfl rfl ?_
 refine sp ?_
 have hL:∀ x:Obj,∀ p∈[(b1,x)],w.heap.size≤p.1:=fun x p hp=>by rw[List.mem_singleton.1 hp]; exact hb1
 refine callV en_97 (cIs (fun w' hw'=>holder_walk w' lo (Nat.le_trans hlo hw'.size) f a c (hT.sy hlo hw' (hL _))) ?_)
 simp (disch:=omega) only[push_cast,qE,Fld.cells]
 refine callV en_49 (callX_newR (fun w' hw'=>checkField_walk w' (hs.mono hw' (hL _)) lo (Nat.le_trans hlo hw'.size) (holdK f) a c (hT.sy hlo hw' (hL _)).hr hT.hc hT.hc2 (by simp[holdK,Fld.nm])) (fun v M hM hMn ⟨pa,pc,hv,_⟩=>?_))
 subst hv
 refine sp ?_
 refine finIs (fun p hp=>?_) ?_
 ·rcases List.mem_cons.1 hp with rfl|hp
  ·exact hb1
  ·exact hM p hp
 ·unfold mayT mayP; rfl
theorem may_kinds {f:Fld} (h:mayT f=true):(1≤f.k∧f.k≤20)∧(f.k=19→3≤f.ix∧f.ix≤10):=by
 obtain ⟨h1,h2,h3,h4,h5⟩:=mayT_shaped h
 refine ⟨h1,fun hk=>?_⟩
 unfold toldP at h3
 rw[if_pos hk] at h3
 exact ⟨h3.2.2.1,h3.2.2.2⟩
theorem may_small {f:Fld} (h:mayT f=true):okT f.sub=true∧f.sub.length≤32:=by
 have h1:=(small_may (l:=[holdK f]) h).1
 simp only[okT,Bool.and_eq_true] at h1
 exact ⟨((okS_iff (holdK f)).1 h1.1).2,((okS_iff (holdK f)).1 h1.1).1⟩
theorem owF0:OwF f0 [] none 0:=(OwF_iff _ _ _ _).2 ⟨by simp[Fld.nm],.inl ⟨rfl,rfl,rfl,rfl⟩⟩
def AtSO (r:Fld×Int) (v:Value) (M:Own):Prop:=∃ a c,v=.tuple #[fldV r.1 a c,i64 r.2]∧OwF r.1 M a c
theorem atO_walk (w:World) (hs:SaysAt w) (lo:Nat) (hlo:lo≤w.heap.size) (a:Option Addr) (l:List Fld) (c:Nat) (na:Option Addr) (nt:List NoteT) (nc:Nat) (hsc:SchAt w lo a l c na nt nc) (pa:Option Addr) (p:List Int) (pc:Nat) (hp:IntsAt w pa p) (hpl:p.length≤9223372036854775807) :
 Calls Tryz.prog 26 #[schV a l c na nt nc,.slice pa p.length pc] w (RetsN w (AtSO (atP l nt p))):=by
 refine enterB (args:=[schV a l c na nt nc,.slice pa p.length pc]) Tryz.func26 rfl Tryz.ntmps26 (congrArg Array.toList Tryz.results26) (by kernel_rfl) (by simp) (Sy.refl w) ?_
 simp (disch:=omega) only[push_cast,qE,schV]
 refine newI (fun b2 hb2 hn2=>?_)
 refine sp ?_
 refine newI (fun b4 hb4 hn4=>?_)
 refine sp ?_
 have hL:∀ p∈[(qb9 b4),(qb4 b2 a l.length c na nt.length nc)],w.heap.size≤p.1:=fun p hp=>by
  simp only[qM,qI,or_false] at hp
  rcases hp with rfl|rfl<;>assumption
 have k1:=fun w' (L':Own) (hL':∀ p∈L',w.heap.size≤p.1) hw'=>hsc.sy hlo (w':=w') (M:=L') hw' (fun p hp=>Nat.le_trans hlo (hL' p hp))
 have hl63:=Nat.le_trans hsc.hc hsc.hc2
 rw[Vb]
 refine sp ?_
 refine lAg Shp.eq mem1 rfl rfl ?_
 refine sp ?_
 refine callV en_56 (cIs (fun w' hw'=>may_walk w' (hs.mono hw' hL) lo (Nat.le_trans hlo hw'.size) a l c na nt nc (k1 w' _ hL hw')) ?_)
 refine sp ?_
 rw[Vc]
 refine sp ?_
 refine cdB (fun hm=>?_) (fun hm=>?_)
 ·have hm':mayP l nt=false:=by simpa using hm
  refine sp ?_
  refine sXa 0 rfl Siz.eq rfl rfl ?_
  refine sp ?_
  refine lAg Shp.eq mem0 rfl rfl ?_
  refine sp ?_
  have hr:atP l nt p=(f0,5):=by unfold atP; rw[if_pos hm']
  rw[hr]
  exact fun w' hw'=>⟨_,[],rfl,hw'.end hL,by simp,none,0,rfl,owF0⟩
 have hm':mayP l nt=true:=by simpa using hm
 refine sp ?_
 rw[Vc]
 refine sp ?_
 refine cdD (fun hp0=>?_) (fun hp0=>?_)
 ·refine sp ?_
  refine sXa 0 rfl Siz.eq rfl rfl ?_
  refine sp ?_
  refine lAg Shp.eq mem0 rfl rfl ?_
  refine sp ?_
  have hr:atP l nt p=(f0,1):=by unfold atP; rw[if_neg (by rw[hm']; simp),if_pos (List.eq_nil_of_length_eq_zero (by omega))]
  rw[hr]
  exact fun w' hw'=>⟨_,[],rfl,hw'.end hL,by simp,none,0,rfl,owF0⟩
 have hpn:p≠[]:=fun h=>hp0 (by rw[h]; rfl)
 have hat:atP l nt p=match goP (rT l) p with
  | some f=>(f,0)
  | none=>(f0,2):=by unfold atP; rw[if_neg (by rw[hm']; simp),if_neg hpn]<;>(cases goP (rT l) p<;>rfl)
 refine sp ?_
 refine lOn Shp.eq mem1 rfl ?_
 refine sp ?_
 refine newI (fun b6 hb6 hn6=>?_)
 refine sp ?_
 refine sXa 0 rfl Siz.eq rfl rfl ?_
 refine sp ?_
 rw[Vb]
 refine sp ?_
 refine loopW (G:=Nat) (AtI w lo b2 b4 b6 a l c na nt nc pa p pc) (fun i=>p.length - i) 0 _ (fun w hw=>hw) (by kernel_rfl) ⟨rfl,rfl,⟨rT l,a,c,rfl,rfl,hsc.hr,hsc.hc,hsc.hc2,by simp[Fld.nm]⟩,by omega,rfl,rfl,rfl,rfl,rfl⟩ ?_
 rintro i wb e ds L ⟨rfl,rfl,⟨g,ga,gc,rfl,hgo,hgr,hgc,hgc2,hgn⟩,hil,h4,h6,h23,h24,h25⟩
 have hL6:∀ x:Obj,∀ q∈((b6,x)::[(qb9 b4),(qb4 b2 a l.length c na nt.length nc)]),wb.heap.size≤q.1:=fun x q hq=>by
  rcases List.mem_cons.1 hq with rfl|hq
  ·exact hb6
  ·exact hL q hq
 simp (disch:=omega) only[push_cast,qE,h4,h6,h23,h24,h25]
 rw[Vc]
 simp (disch:=omega) only[push_cast,qE,h4,h6,h23,h24,h25]
 refine cdD (fun hlt=>?_) (fun hge=>?_)
 ·obtain ⟨k,hk⟩:∃ k,p[i]?=some k:=⟨_,qH (by omega)⟩
  rcases hp with rfl|⟨pb,poff,rfl,hpa⟩
  ·simp at hk
  simp (disch:=omega) only[push_cast,qE,h4,h6,h23,h24,h25]
  rw[Vb]
  simp (disch:=omega) only[push_cast,qE,h4,h6,h23,h24,h25]
  refine ldF Shp.eq (by simpa using hpa i k hk) (out_of (fun q hq=>Nat.lt_of_lt_of_le (hpa i k hk).lt (hL6 _ q hq))) ?_
  simp (disch:=omega) only[push_cast,qE,h4,h6,h23,h24,h25]
  have hbad:¬ (0≤k∧k < g.sub.length)→atP l nt p=(f0,2):=fun hb=>by
   have:goP (rT l) p=none:=go_none (i:=i+1) (by rw[take_go hk hgo,goP,if_neg hb])
   rw[hat,this]
  refine gF rfl (fun hk0=>?_) (fun hk0=>?_)
  rotate_left
  ·simp (disch:=omega) only[push_cast,qE,h4,h6,h23,h24,h25]
   rw[Vc]
   simp (disch:=omega) only[push_cast,qE,h4,h6,h23,h24,h25]
   refine sXa 1 rfl Siz.eq rfl rfl ?_
   simp (disch:=omega) only[push_cast,qE,h4,h6,h23,h24,h25]
   refine lAg Shp.eq mem1 rfl rfl ?_
   simp (disch:=omega) only[push_cast,qE,h4,h6,h23,h24,h25]
   rw[hbad (by omega)]
   exact fun w' hw'=>⟨_,[],rfl,hw'.end (hL6 _),by simp,none,0,rfl,owF0⟩
  simp (disch:=omega) only[push_cast,qE,h4,h6,h23,h24,h25]
  refine lOn Shp.eq mem0 rfl ?_
  simp (disch:=omega) only[push_cast,qE,h4,h6,h23,h24,h25]
  rw[Vc]
  simp (disch:=omega) only[push_cast,qE,h4,h6,h23,h24,h25]
  refine cdD (fun hkl=>?_) (fun hkl=>?_)
  ·simp (disch:=omega) only[push_cast,qE,h4,h6,h23,h24,h25]
   refine sXa 1 rfl Siz.eq rfl rfl ?_
   simp (disch:=omega) only[push_cast,qE,h4,h6,h23,h24,h25]
   refine lAg Shp.eq mem1 rfl rfl ?_
   simp (disch:=omega) only[push_cast,qE,h4,h6,h23,h24,h25]
   rw[hbad (by omega)]
   exact fun w' hw'=>⟨_,[],rfl,hw'.end (hL6 _),by simp,none,0,rfl,owF0⟩
  obtain ⟨j,rfl⟩:∃ j:Nat,k=j:=⟨k.toNat,by omega⟩
  obtain ⟨f,hf⟩:∃ f,g.sub[j]?=some f:=⟨_,qH (by omega)⟩
  obtain ⟨b,off,rfl,hb⟩:∃ b off,ga=some ⟨b,off,none⟩∧b < lo:=by
   cases hs:g.sub with
   | nil=>rw[hs] at hf; simp at hf
   | cons x y=>rw[hs] at hgr; exact hgr.some_of
  obtain ⟨fa,fc,x1,x2,x3,x4,x5,x6⟩:=hgr.get j hf
  simp (disch:=omega) only[push_cast,qE,h4,h6,h23,h24,h25]
  refine lOn Shp.eq mem0 rfl ?_
  simp (disch:=omega) only[push_cast,qE,h4,h6,h23,h24,h25,Int.toNat_natCast]
  refine ldAggF Shp.eq x2 rfl (out_of (fun q hq=>Nat.lt_of_lt_of_le (Nat.lt_of_lt_of_le x1 hlo) (hL6 _ q hq))) ?_
  simp (disch:=omega) only[push_cast,qE,h4,h6,h23,h24,h25,Fld.cells]
  refine sXa 0 rfl Siz.eq rfl rfl ?_
  simp (disch:=omega) only[push_cast,qE,h4,h6,h23,h24,h25]
  refine ⟨i+1,_,fun w hw=>hw,⟨rfl,rfl,⟨f,fa,fc,rfl,?_,x6,x3,x5,x4⟩,by omega,h4,h6,h23,h24,uu⟩,by omega⟩
  rw[take_go hk hgo,goP,if_pos ⟨by omega,by omega⟩,Int.toNat_natCast,hf]
  rfl
 ·obtain rfl:i=p.length:=by omega
  rw[List.take_length] at hgo
  have hr:atP l nt p=(g,0):=by rw[hat,hgo]
  simp (disch:=omega) only[push_cast,qE,h4,h6,h23,h24,h25]
  refine lAg Shp.eq mem0 rfl rfl ?_
  simp (disch:=omega) only[push_cast,qE,h4,h6,h23,h24,h25]
  refine bs_24_1 (newI fun b9 hb9 hn9=>?_)
  simp (disch:=omega) only[push_cast,qE,h4,h6,h23,h24,h25]
  have hL9:∀ q∈[(qb0 b9 g ga gc),(qb0 b6 g ga gc),(qb9 b4),(qb4 b2 a l.length c na nt.length nc)],wb.heap.size≤q.1:=(nC hb9 (hL6 _))
  obtain ⟨sm1,sm2⟩:=small_may hm'
  have hokg:okS g=true:=okS_go p (rT l) g ((okS_iff _).2 ⟨sm2,sm1⟩) hgo
  refine callV en_60 (cNw  (fun w' hw'=>copiedO_walk w' w'.heap.size [g] (some ⟨b9,0,none⟩) 1 (Nat.le_refl _) (.cons (hw'.lt (.head _)) hgc hgn hgc2 (At.of_own hw' (.head _) rfl) ((hgr.sy hlo hw' (fun q hq=>Nat.le_trans hlo (hL9 q hq))).weaken (Nat.le_trans hlo hw'.size)) (.nil _)) (by simp) (by omega) (by simp) (by simp only[okT,hokg,Bool.and_self])) (fun v M hM hMn hS=>?_))
  obtain ⟨a2,c2,rfl,hO⟩:=hS
  rcases (OwS_iff _ _ _ _).1 hO with ⟨z5,_⟩|⟨b5,cap5,cs5,xs5,K5,rfl,hM3e,_,_,_,_,_,htk,hK5⟩
  ·cases z5
  obtain ⟨K6,K7,a3,c3,cs7,hK67,hx7,hF3,hK7⟩:=hK5.cons_inv
  rw[OwK] at hK7
  obtain ⟨rfl,rfl⟩:=hK7
  rw[List.append_nil] at hK67 hx7
  have hK67':=hK67.symm
  subst hK67'
  subst hx7
  have hmb:(b5,Obj.cells cs5.toArray 37 (0,0))∈M:=by rw[hM3e]; exact .head _
  have hsub:K6.Sublist M:=by rw[hM3e]; exact List.sublist_cons_self _ _
  simp (disch:=omega) only[push_cast,qE,h4,h6,h23,h24,h25,List.length_singleton]
  refine lAg Shp.eq (List.mem_append_left _ hmb) (un htk) rfl ?_
  simp (disch:=omega) only[push_cast,qE,h4,h6,h23,h24,h25,Fld.cells]
  refine storeX_weak (L':=(qb9 b4)::(M++[(qb0 b9 g ga gc),(qb0 b6 g ga gc),(qb4 b2 a l.length c na nt.length nc)])) (fun w hw=>hw.perm (by
   have:=(List.perm_middle (l₁:=M++[(qb0 b9 g ga gc),(qb0 b6 g ga gc)]) (a:=((qb9 b4):Nat×Obj)) (l₂:=[(qb4 b2 a l.length c na nt.length nc)]))
   simpa only[List.append_assoc,List.cons_append,List.nil_append] using this)) (sXa 0 rfl Siz.eq rfl rfl ?_)
  simp (disch:=omega) only[push_cast,qE,h4,h6,h23,h24,h25]
  refine lAg Shp.eq mem0 rfl rfl ?_
  simp (disch:=omega) only[push_cast,qE,h4,h6,h23,h24,h25]
  rw[hr]
  exact fun w' hw'=>⟨_,K6,rfl,hw'.drop ((hsub.trans (List.sublist_append_left M _)).cons _) (fun q hq=>.inr (by
   rcases List.mem_cons.1 hq with rfl|hq
   ·exact hb4
   rcases List.mem_append.1 hq with hq|hq
   ·exact hM q hq
   ·refine hL9 q ?_
    simp only[qM,qI,or_false] at hq ⊢
    rcases hq with rfl|rfl|rfl<;>simp)),fun p hp=>hM p (hsub.subset hp),a3,c3,rfl,hF3⟩
theorem partsO_walk (w:World) (hs:SaysAt w) (lo:Nat) (hlo:lo≤w.heap.size) (f:Fld) (a:Option Addr) (c:Nat) (hT:TyAt w lo f a c) :
 Calls Tryz.prog 25 #[tyV f a c] w (RetsN w (fun v M=>CopyO v M (partsP f))):=by
 refine enterB (args:=[tyV f a c]) Tryz.func25 rfl Tryz.ntmps25 (congrArg Array.toList Tryz.results25) (by kernel_rfl) (by simp) (Sy.refl w) ?_
 simp (disch:=omega) only[push_cast,qE,Fld.tcells]
 refine newI (fun b1 hb1 hn1=>?_)
 simp (disch:=omega) only[push_cast,qE,Fld.tcells]
 refine lAg Shp.eq mem0 rfl rfl ?_
 refine sp ?_
 have hL:∀ x:Obj,∀ p∈[(b1,x)],w.heap.size≤p.1:=fun x p hp=>by rw[List.mem_singleton.1 hp]; exact hb1
 have hnil:∀ v,partsP f=[]→v=.slice none 0 0→∀ x w',Sy w [(b1,x)] w'→RetsN w (fun v M=>CopyO v M (partsP f)) (.returned v) w':=fun v hp hv x w' hw'=>by
  subst hv
  refine ⟨_,[],rfl,hw'.end (hL x),by simp,none,0,?_,(OwS_iff _ _ _ _).2 (.inl ⟨hp,rfl,rfl,rfl⟩)⟩
  rw[hp]; rfl
 refine callV en_66 (cIs (fun w' hw'=>mayType_walk w' (hs.mono hw' (hL _)) lo (Nat.le_trans hlo hw'.size) f a c (hT.sy hlo hw' (hL _))) ?_)
 refine sp ?_
 rcases hm:mayT f with _|_
 ·simp only[Bool.not_false]
  refine sp ?_
  repeat' (first|((first|((first|refine gT rfl ?_ ?_|refine gF rfl ?_ ?_|refine cdD ?_ ?_)<;>intro h)|((first|refine gbT rfl ?_ ?_|refine gbF rfl ?_ ?_|refine cdB ?_ ?_)<;>intro h<;>(try subst h))|refine lOa Shp.eq rfl ?_|refine lAa Shp.eq rfl rfl ?_|refine newI (fun b hb hn=>?_)|refine sXb Siz.eq rfl rfl ?_)<;>simp (disch:=omega) only[push_cast,qE])|(first|rw[Vc]|rw[Vb])<;>(try simp (disch:=omega) only[push_cast,qE]))
  exact fun w' hw'=>hnil _ (by simp[partsP,hm]) rfl _ w' hw'
 obtain ⟨hk,hx⟩:=may_kinds hm
 obtain ⟨sm1,sm2⟩:=may_small hm
 simp only[Bool.not_true]
 refine sp ?_
 refine lOn Shp.eq mem0 rfl ?_
 refine sp ?_
 rw[Vc]
 refine sp ?_
 refine cdD (fun h19=>?_) (fun h19=>?_)
 ·refine sp ?_
  exact fun w' hw'=>hnil _ (by simp[partsP,h19]) rfl _ w' hw'
 refine sp ?_
 refine lOn Shp.eq mem0 rfl ?_
 refine sp ?_
 refine callV en_60 (cNw  (fun w' hw'=>copiedO_walk w' lo f.sub a c (Nat.le_trans hlo hw'.size) (hT.sy hlo hw' (hL _)).hr hT.hc hT.hc2 sm2 sm1) (fun v M hM hMn hS=>?_))
 obtain ⟨a2,c2,rfl,hO⟩:=hS
 have hOl:=hO.le
 refine sp ?_
 refine lOn Shp.eq (List.mem_append_right _ mem0) rfl ?_
 refine sp ?_
 rw[Vc]
 refine sp ?_
 have hLM:∀ x:Obj,∀ p∈M++[(b1,x)],w.heap.size≤p.1:=fun x p hp=>by
  rcases List.mem_append.1 hp with hp|hp
  ·exact hM p hp
  ·exact hL x p hp
 refine cdD (fun h20=>?_) (fun h20=>?_)
 rotate_left
 ·refine sp ?_
  repeat' (first|((first|((first|refine gT rfl ?_ ?_|refine gF rfl ?_ ?_|refine cdD ?_ ?_)<;>intro h)|((first|refine gbT rfl ?_ ?_|refine gbF rfl ?_ ?_|refine cdB ?_ ?_)<;>intro h<;>(try subst h))|refine lOa Shp.eq rfl ?_|refine lAa Shp.eq rfl rfl ?_|refine newI (fun b hb hn=>?_)|refine sXb Siz.eq rfl rfl ?_)<;>simp (disch:=omega) only[push_cast,qE])|(first|rw[Vc]|rw[Vb])<;>(try simp (disch:=omega) only[push_cast,qE]))
  have hp:partsP f=f.sub:=by simp[partsP,hm,h19,h20]
  rw[hp]
  exact fun w' hw'=>⟨_,M,rfl,hw'.drop (List.sublist_append_left M _) (fun p hp=>.inr (hLM _ p hp)),hM,a2,c2,rfl,hO⟩
 have hp:partsP f=endsF::f.sub:=by simp[partsP,hm,h20]
 rw[hp]
 have h1l:=runs_one (mayT_shaped hm) h20
 rcases (OwS_iff _ _ _ _).1 hO with ⟨z5,_⟩|⟨b2,cap2,cs2,xs2,K2,rfl,hMe,_,_,_,hcap,hcl,htk,hK2⟩
 ·rw[z5] at h1l; simp at h1l
 have hmb:(b2,Obj.cells cs2.toArray 37 (0,0))∈M:=by rw[hMe]; exact .head _
 have hone:∀ u∈xs2,u.oneCell'=true:=hK2.one
 have hxl:=hK2.len
 refine sp ?_
 refine bs_24_1 (newI fun b20 hb20 hn20=>?_)
 refine sp ?_
 refine appendI un_24 infoFldC rfl (n:=1) (m:=f.sub.length) (xs:=endsF.cells none 0) (news:=xs2) (M:=M++[(qb2 b1 f a c)]) ⟨rfl,.inr ⟨b20,1,endsF.cells none 0,rfl,rfl,hb20,by omega,by simp[maxLen],rfl,rfl⟩⟩ hxl (CanRead.of_own (.tail _ (List.mem_append_left _ hmb)) hxl htk) hone (by simp only[maxLen]; omega) (by omega) (fun v5 L5 hro5 _=>?_)
 refine sp ?_
 repeat' (first|((first|((first|refine gT rfl ?_ ?_|refine gF rfl ?_ ?_|refine cdD ?_ ?_)<;>intro h)|((first|refine gbT rfl ?_ ?_|refine gbF rfl ?_ ?_|refine cdB ?_ ?_)<;>intro h<;>(try subst h))|refine lOa Shp.eq rfl ?_|refine lAa Shp.eq rfl rfl ?_|refine newI (fun b hb hn=>?_)|refine sXb Siz.eq rfl rfl ?_)<;>simp (disch:=omega) only[push_cast,qE])|(first|rw[Vc]|rw[Vb])<;>(try simp (disch:=omega) only[push_cast,qE]))
 obtain ⟨va,vc,rfl⟩:=hro5.is_slice
 have hle:=RowO.le hro5
 have hnew5:=hro5.new (hLM _)
 have hln:1+f.sub.length=(endsF::f.sub).length:=by rw[List.length_cons]; omega
 rw[hln] at hro5 hle ⊢
 have hxl5:=hro5.1
 obtain ⟨h0,⟨q1,q2,q3⟩|⟨b,cap,cs,q1,q2,q3,q4,q5,q6,q7⟩⟩:=hro5
 ·simp at q2
 injection q1 with r1 r2 r3
 subst r1 r3
 rw[q2] at hnew5 ⊢
 have hK3:OwK (endsF::f.sub) K2 (endsF.cells none 0++xs2):=OwK.cons (K1:=[]) ((OwF_iff _ _ _ _).2 ⟨by simp[endsF,Fld.nm],.inl ⟨rfl,rfl,rfl,rfl⟩⟩) hK2
 have hsub:((b,Obj.cells cs.toArray 37 (0,0))::K2).Sublist ((b,Obj.cells cs.toArray 37 (0,0))::(M++[(qb2 b1 f a c)])):=((by rw[hMe]; exact List.sublist_cons_self _ _:K2.Sublist M).trans (List.sublist_append_left M _)).cons_cons _
 exact fun w' hw'=>⟨_,(b,Obj.cells cs.toArray 37 (0,0))::K2,rfl,hw'.drop hsub (fun p hp=>.inr (hnew5 p hp)),fun p hp=>hnew5 p (hsub.subset hp),_,_,rfl,(OwS_iff _ _ _ _).2 (.inr ⟨b,_,cs,_,K2,rfl,rfl,hle.2.1,Nat.le_refl _,.inl rfl,hle.2.2,q6,q7,hK3⟩)⟩
end Go.Proofs.YtdmdgkpjjpijdaaGreatDoor
