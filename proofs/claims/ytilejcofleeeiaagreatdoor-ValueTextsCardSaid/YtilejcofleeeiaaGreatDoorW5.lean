/- YtilejcofleeeiaaGreatDoor: walks, part 5: what is wrong with a field. -/
import Derived.Test.YtilejcofleeeiaaGreatDoorW2
namespace Go.Proofs.YtilejcofleeeiaaGreatDoor
open Go Go.K
open Nat renaming reduceEqDiff → qE
open List renaming mem_singleton → qS
set_option maxRecDepth 100000
set_option linter.unusedVariables false
set_option linter.unusedSimpArgs false
set_option maxHeartbeats 4000000
def nullsB (f:Fld):Bool:=if f.k=1 then f.nl else if f.k=18 then !f.nl else if f.k=20 then f.nl == (f.sub.head?.map Fld.nl).getD false else true
theorem nulls_walk (w:World) (f:Fld) (a:Option Addr) (c:Nat) (hk:f.k=20→f.sub≠[]) (hr:Rd w w.heap.size a f.sub) :
 Calls Tryz.prog 142 #[.agg (f.cells a c).toArray] w (Rets w (Is (.bool (nullsB f)))):=by
 refine enterT (args:=[.agg (f.cells a c).toArray]) Tryz.func142 rfl Tryz.ntmps142 (congrArg Array.toList Tryz.results142) (by kernel_rfl) (by simp) (Sy.refl w) ?_
 simp (disch:=omega) only[push_cast,qE,Fld.cells]
 repeat' (first|((first|((first|refine gT rfl ?_ ?_|refine gF rfl ?_ ?_|refine cdD ?_ ?_)<;>intro h)|((first|refine gbT rfl ?_ ?_|refine gbF rfl ?_ ?_|refine cdB ?_ ?_)<;>intro h<;>(try subst h))|refine lOa Shp.eq rfl ?_|refine lAa Shp.eq rfl rfl ?_|refine newI (fun b hb hn=>?_)|refine sXb Siz.eq rfl rfl ?_)<;>simp (disch:=omega) only[push_cast,qE])|(first|rw[Vc]|rw[Vb])<;>(try simp (disch:=omega) only[push_cast,qE]))
 case refine_2.refine_2.refine_1 =>
  rename_i h2 h
  obtain ⟨g,l,hl⟩:∃ g l,f.sub=g::l:=List.exists_cons_of_ne_nil (hk h)
  have hlen:0 < f.sub.length:=by rw[hl]; simp
  rw[hl] at hr
  obtain ⟨b',off,rfl,hb'⟩:=hr.some_of
  obtain ⟨a',c',x1,x2,x3⟩:=hr.get 0 rfl
  refine drawQT (by kernel_rfl) (by kernel_rfl) mixed (by kernel_rfl) ?_
  refine sp ?_
  repeat' (first|((first|((first|refine gT rfl ?_ ?_|refine gF rfl ?_ ?_|refine cdD ?_ ?_)<;>intro h)|((first|refine gbT rfl ?_ ?_|refine gbF rfl ?_ ?_|refine cdB ?_ ?_)<;>intro h<;>(try subst h))|refine lOa Shp.eq rfl ?_|refine lAa Shp.eq rfl rfl ?_|refine newI (fun b hb hn=>?_)|refine sXb Siz.eq rfl rfl ?_)<;>simp (disch:=omega) only[push_cast,qE])|(first|rw[Vc]|rw[Vb])<;>(try simp (disch:=omega) only[push_cast,qE]))
  refine ldF (by exact sh_4) (x2.sub 1 [.bool g.nl] rfl) (out_of (by simp only[qS]; rintro p rfl; simp only; omega)) ?_
  refine sp ?_
  refine fun w' hw=>⟨_,rfl,hw.drop (List.nil_sublist _) (fun p hp=>.inr (by simp at hp; rw[hp]; assumption)),?_⟩
  simp only[Is,nullsB,h,hl,h2,if_true,if_false]
  rfl
 all_goals (refine fun w' hw=>⟨_,rfl,hw.drop (List.nil_sublist _) (fun p hp=>.inr (by simp at hp; rw[hp]; assumption)),?_⟩)
 all_goals simp only[Is,nullsB,if_true,if_false, *]
 all_goals simp
theorem wrong1_walk (w:World) (f:Fld) (a:Option Addr) (c:Nat) (bp:Nat) (nm:List UInt8) (h:At w bp 2 [str nm]) :
 Calls Tryz.prog 140 #[.agg (f.cells a c).toArray,.pointer (some ⟨bp,0,none⟩)] w (Rets w (Is (.bool (decide (f.nm=nm))))):=by
 refine enterT (args:=[.agg (f.cells a c).toArray,.pointer (some ⟨bp,0,none⟩)]) Tryz.func140 rfl Tryz.ntmps140 (congrArg Array.toList Tryz.results140) (by kernel_rfl) (by simp) (Sy.refl w) ?_
 have hlt:=h.lt
 simp (disch:=omega) only[push_cast,qE,Fld.cells]
 repeat' (first|((first|((first|refine gT rfl ?_ ?_|refine gF rfl ?_ ?_|refine cdD ?_ ?_)<;>intro h)|((first|refine gbT rfl ?_ ?_|refine gbF rfl ?_ ?_|refine cdB ?_ ?_)<;>intro h<;>(try subst h))|refine lOa Shp.eq rfl ?_|refine lAa Shp.eq rfl rfl ?_|refine newI (fun b hb hn=>?_)|refine sXb Siz.eq rfl rfl ?_)<;>simp (disch:=omega) only[push_cast,qE])|(first|rw[Vc]|rw[Vb])<;>(try simp (disch:=omega) only[push_cast,qE]))
 refine ldF (by exact sh_9) h (out_of (by simp only[qS]; rintro p rfl; simp only; omega)) ?_
 refine sp ?_
 exact finIs (by simp only[qS]; rintro p rfl; assumption) rfl
structure IndexI (w0:World) (l:List Fld) (a:Option Addr) (c:Nat) (fv:Value) (p:Fld→Bool) (k:Nat) (wb:World) (e:Env) (ds:List Deferred) (L:Own):Prop where
 hw:wb=w0
 d:ds=[]
 o:L=[]
 kl:k≤l.length
 n:∀ j g,j < k→l[j]?=some g→p g=false
 h0:e 0=.slice a l.length c
 h1:e 1=fv
 h7:e 7=i64 l.length
 h8:e 8=i64 k
theorem indexFunc_walk (w:World) (lo:Nat) (l:List Fld) (a:Option Addr) (c:Nat) (hr:Rd w lo a l) (hlo:lo≤w.heap.size) (hc:l.length≤c) (hc2:c≤9223372036854775807) (g:FuncId) (cap:Array Value) (p:Fld→Bool) (hen:entersB Tryz.prog g=true)
 (hg:∀ w',Sy w [] w'→∀ f a c,f∈l→Calls Tryz.prog g (#[.agg (f.cells a c).toArray]++cap) w' (Rets w' (Is (.bool (p f))))) :
 Calls Tryz.prog 161 #[.slice a l.length c,.func (.func g) #[] cap] w (Rets w (Is (i64 (idxF p l)))):=by
 refine enterT (args:=[.slice a l.length c,.func (.func g) #[] cap]) Tryz.func161 rfl Tryz.ntmps161 (congrArg Array.toList Tryz.results161) (by kernel_rfl) (by simp) (Sy.refl w) ?_
 refine sp ?_
 repeat' (first|((first|((first|refine gT rfl ?_ ?_|refine gF rfl ?_ ?_|refine cdD ?_ ?_)<;>intro h)|((first|refine gbT rfl ?_ ?_|refine gbF rfl ?_ ?_|refine cdB ?_ ?_)<;>intro h<;>(try subst h))|refine lOa Shp.eq rfl ?_|refine lAa Shp.eq rfl rfl ?_|refine newI (fun b hb hn=>?_)|refine sXb Siz.eq rfl rfl ?_)<;>simp (disch:=omega) only[push_cast,qE])|(first|rw[Vc]|rw[Vb])<;>(try simp (disch:=omega) only[push_cast,qE]))
 refine loopT (G:=Nat) (IndexI w l a c (.func (.func g) #[] cap) p) (fun k=>l.length - k) 0 (by kernel_rfl) ⟨rfl,rfl,rfl,by omega,fun j g h=>by omega,rfl,rfl,rfl,rfl⟩ ?_
 rintro k wb e ds L ⟨rfl,rfl,rfl,hk,hn,h0,h1,h7,h8⟩
 simp (disch:=omega) only[push_cast,qE,h0,h1,h7,h8]
 rw[Vc]
 simp (disch:=omega) only[push_cast,qE,h0,h1,h7,h8]
 refine cdD (fun hlt=>?_) (fun hge=>?_)
 ·obtain ⟨f,hf⟩:∃ f,l[k]?=some f:=⟨_,List.getElem?_eq_getElem (by omega)⟩
  have hfm:f∈l:=List.mem_of_getElem? hf
  obtain ⟨f0,l0,rfl⟩:∃ f l',l=f::l':=List.exists_cons_of_ne_nil (by rintro rfl; simp at hf)
  obtain ⟨b,off,rfl,hb⟩:=hr.some_of
  obtain ⟨a',c',x1,x2,x3⟩:=hr.get k hf
  simp (disch:=omega) only[push_cast,qE,h0,h1,h7,h8]
  repeat' (first|((first|((first|refine gT rfl ?_ ?_|refine gF rfl ?_ ?_|refine cdD ?_ ?_)<;>intro h)|((first|refine gbT rfl ?_ ?_|refine gbF rfl ?_ ?_|refine cdB ?_ ?_)<;>intro h<;>(try subst h))|refine lOa Shp.eq rfl ?_|refine lAa Shp.eq rfl rfl ?_|refine newI (fun b hb hn=>?_)|refine sXb Siz.eq rfl rfl ?_)<;>simp (disch:=omega) only[push_cast,qE,h0,h1,h7,h8])|(first|rw[Vc]|rw[Vb])<;>(try simp (disch:=omega) only[push_cast,qE,h0,h1,h7,h8]))
  refine ldAggF sh_26 x2 rfl (by simp) ?_
  simp (disch:=omega) only[push_cast,qE,h0,h1,h7,h8]
  refine callVc hen (cIs (fun w hw=>hg w hw f a' c' hfm) ?_)
  simp (disch:=omega) only[push_cast,qE,h0,h1,h7,h8]
  repeat' (first|((first|((first|refine gT rfl ?_ ?_|refine gF rfl ?_ ?_|refine cdD ?_ ?_)<;>intro h)|((first|refine gbT rfl ?_ ?_|refine gbF rfl ?_ ?_|refine cdB ?_ ?_)<;>intro h<;>(try subst h))|refine lOa Shp.eq rfl ?_|refine lAa Shp.eq rfl rfl ?_|refine newI (fun b hb hn=>?_)|refine sXb Siz.eq rfl rfl ?_)<;>simp (disch:=omega) only[push_cast,qE,h0,h1,h7,h8])|(first|rw[Vc]|rw[Vb])<;>(try simp (disch:=omega) only[push_cast,qE,h0,h1,h7,h8]))
  ·exact finIs (by simp) (i64_eq (idxF_at hn hf h).symm)
  ·have hp:=h
   refine ⟨k+1,⟨rfl,rfl,rfl,by omega,fun j g hj hg=>?_,h0,h1,h7,?_⟩,by
    show (f0::l0).length - (k+1) < (f0::l0).length - k
    have:k < (f0::l0).length:=by omega
    omega⟩
   ·rcases Nat.lt_or_ge j k with h|h
    ·exact hn j g h hg
    ·obtain rfl:j=k:=by omega
     rw[hf] at hg
     cases hg
     exact hp
   ·simp only[upd]; rfl
 ·obtain rfl:k=l.length:=by omega
  simp (disch:=omega) only[push_cast,qE,h0,h1,h7,h8]
  repeat' (first|((first|((first|refine gT rfl ?_ ?_|refine gF rfl ?_ ?_|refine cdD ?_ ?_)<;>intro h)|((first|refine gbT rfl ?_ ?_|refine gbF rfl ?_ ?_|refine cdB ?_ ?_)<;>intro h<;>(try subst h))|refine lOa Shp.eq rfl ?_|refine lAa Shp.eq rfl rfl ?_|refine newI (fun b hb hn=>?_)|refine sXb Siz.eq rfl rfl ?_)<;>simp (disch:=omega) only[push_cast,qE,h0,h1,h7,h8])|(first|rw[Vc]|rw[Vb])<;>(try simp (disch:=omega) only[push_cast,qE,h0,h1,h7,h8]))
  exact finIs (by simp) (i64_eq (idxF_none hn).symm)
theorem containsFunc_walk (w:World) (lo:Nat) (l:List Fld) (a:Option Addr) (c:Nat) (hr:Rd w lo a l) (hlo:lo≤w.heap.size) (hc:l.length≤c) (hc2:c≤9223372036854775807) (g:FuncId) (cap:Array Value) (p:Fld→Bool) (hen:entersB Tryz.prog g=true)
 (hg:∀ w',Sy w [] w'→∀ f a c,f∈l→Calls Tryz.prog g (#[.agg (f.cells a c).toArray]++cap) w' (Rets w' (Is (.bool (p f))))) :
 Calls Tryz.prog 139 #[.slice a l.length c,.func (.func g) #[] cap] w (Rets w (Is (.bool (l.any p)))):=by
 refine enterT (args:=[.slice a l.length c,.func (.func g) #[] cap]) Tryz.func139 rfl Tryz.ntmps139 (congrArg Array.toList Tryz.results139) (by kernel_rfl) (by simp) (Sy.refl w) ?_
 refine sp ?_
 refine callV en_161 (cIs (fun w' hw=>indexFunc_walk w' lo l a c (hr.sy hlo hw (by simp)) (Nat.le_trans hlo hw.size) hc hc2 g cap p hen (fun w'' h''=>hg w'' (hw.frame h''))) ?_)
 refine sp ?_
 refine finIs (by simp) (bool_iff ?_)
 rw[decide_eq_true_iff]
 exact idxF_any p l
instance (l:List UInt8):Decidable (isName l):=by unfold isName; infer_instance
def firstNl (f:Fld):Bool:=(f.sub.head?.map Fld.nl).getD false
abbrev shapedF (f:Fld):Prop:=shapedP f.k f.wd f.id f.ix f.sub.length
def wrongN (pl:Nat) (ah:List Fld) (f:Fld) (ind:Bool) (k:Int) (S:List Int):Int :=
 if 64 < pl then 33 else if 256≤k then 34 else if ¬ isName f.nm then 30 else if ah.any (fun g=>decide (g.nm=f.nm))=true then 31
 else if ¬ shapedF f then 32 else if nullsB f=false then 35
 else if ind=true∧(f.k=19∨f.k=20) then 36 else if f.k=19∧(firstNl f=true∨f.id∈S) then 36 else 0
def placeV (pa:Option Addr) (pl pc:Nat) (aa:Option Addr) (an ac:Nat) (f:Fld) (a:Option Addr) (c:Nat) (ind:Bool):Value :=
 .agg #[.slice pa pl pc,.slice aa an ac,str f.nm,.bool f.nl,i64 f.k,i64 f.wd,i64 f.id,i64 f.ix,.slice a f.sub.length c,.bool ind]
theorem wrong_walk (w:World) (hs:SaysAt w) (lo:Nat) (hlo:lo≤w.heap.size) (pa:Option Addr) (pl pc:Nat) (aa:Option Addr) (ah:List Fld) (ac:Nat) (hah:Rd w lo aa ah) (hac:ah.length≤ac) (hac2:ac≤9223372036854775807)
 (f:Fld) (a:Option Addr) (c:Nat) (hf:Rd w lo a f.sub) (hfc:f.sub.length≤c) (hfn:f.nm.length≤9223372036854775807) (ind:Bool) (k:Int) (m clock:Nat) (es:Array MapEntry) (S:List Int) (hm:w.heap[m]?=some (.map es clock)) (hS:KeysOf es S) :
 Calls Tryz.prog 113 #[placeV pa pl pc aa ah.length ac f a c ind,i64 k,.map (some m)] w (Rets w (Is (i64 (wrongN pl ah f ind k S)))):=by
 refine enterT (args:=[placeV pa pl pc aa ah.length ac f a c ind,i64 k,.map (some m)]) Tryz.func113 rfl Tryz.ntmps113 (congrArg Array.toList Tryz.results113) (by kernel_rfl) (by simp) (Sy.refl w) ?_
 have hmlt:m < w.heap.size:=(Array.getElem?_eq_some_iff.1 hm).1
 simp (disch:=omega) only[push_cast,qE,placeV]
 repeat' (first|((first|((first|refine gT rfl ?_ ?_|refine gF rfl ?_ ?_|refine cdD ?_ ?_)<;>intro h)|((first|refine gbT rfl ?_ ?_|refine gbF rfl ?_ ?_|refine cdB ?_ ?_)<;>intro h<;>(try subst h))|refine lOa Shp.eq rfl ?_|refine lAa Shp.eq rfl rfl ?_|refine newI (fun b hb hn=>?_)|refine sXb Siz.eq rfl rfl ?_)<;>simp (disch:=omega) only[push_cast,qE]))
 rename_i bp hbp hnp
 have hL:∀ p∈[(qb1 b f a c),(bp,Obj.cells #[.slice pa pl pc,.slice aa ah.length ac,str f.nm,.bool f.nl,i64 f.k,i64 f.wd,i64 f.id,i64 f.ix,.slice a f.sub.length c,.bool ind] 145 (0,0))],w.heap.size≤p.1:=by
  simp only[List.mem_cons,List.mem_nil_iff,or_false]
  rintro p (rfl|rfl)<;>assumption
 refine lookupX Tryz.underlying140 Tryz.underlying3 Tryz.zeroValue3 (fun w' hw'=>(hw'.rest m hmlt (out_of fun p hp=>Nat.lt_of_lt_of_le hmlt (hL p hp))).trans hm) hS (fun v=>?_)
 refine sp ?_
 rw[Vb]
 refine sp ?_
 repeat' (first|((first|((first|refine gT rfl ?_ ?_|refine gF rfl ?_ ?_|refine cdD ?_ ?_)<;>intro h)|((first|refine gbT rfl ?_ ?_|refine gbF rfl ?_ ?_|refine cdB ?_ ?_)<;>intro h<;>(try subst h))|refine lOa Shp.eq rfl ?_|refine lAa Shp.eq rfl rfl ?_|refine newI (fun b hb hn=>?_)|refine sXb Siz.eq rfl rfl ?_)<;>simp (disch:=omega) only[push_cast,qE]))
 rw[Vc]
 refine sp ?_
 refine cdD (fun c1=>?_) (fun c1=>?_)
 ·refine sp ?_
  exact finIs hL (i64_eq (by unfold wrongN; rw[if_pos (by omega)]))
 refine sp ?_
 rw[Vc]
 refine sp ?_
 refine cdD (fun c2=>?_) (fun c2=>?_)
 ·refine sp ?_
  exact finIs hL (i64_eq (by unfold wrongN; rw[if_neg (by omega),if_pos (by omega)]))
 refine sp ?_
 repeat' (first|((first|((first|refine gT rfl ?_ ?_|refine gF rfl ?_ ?_|refine cdD ?_ ?_)<;>intro h)|((first|refine gbT rfl ?_ ?_|refine gbF rfl ?_ ?_|refine cdB ?_ ?_)<;>intro h<;>(try subst h))|refine lOa Shp.eq rfl ?_|refine lAa Shp.eq rfl rfl ?_|refine newI (fun b hb hn=>?_)|refine sXb Siz.eq rfl rfl ?_)<;>simp (disch:=omega) only[push_cast,qE]))
 refine callV en_138 (callX_ex (fun w _=>named_walk w f.nm hfn) (fun v ⟨nb,hv,hnb⟩=>?_))
 subst hv
 refine sp ?_
 rw[Vc]
 refine sp ?_
 refine cdB (fun c3=>?_) (fun c3=>?_)
 ·refine sp ?_
  have c3':¬ isName f.nm:=fun h=>by rw[hnb.2 h] at c3; cases c3
  exact finIs hL (i64_eq (by unfold wrongN; rw[if_neg (by omega),if_neg (by omega),if_pos c3']))
 have c3':isName f.nm:=hnb.1 (un c3)
 refine sp ?_
 repeat' (first|((first|((first|refine gT rfl ?_ ?_|refine gF rfl ?_ ?_|refine cdD ?_ ?_)<;>intro h)|((first|refine gbT rfl ?_ ?_|refine gbF rfl ?_ ?_|refine cdB ?_ ?_)<;>intro h<;>(try subst h))|refine lOa Shp.eq rfl ?_|refine lAa Shp.eq rfl rfl ?_|refine newI (fun b hb hn=>?_)|refine sXb Siz.eq rfl rfl ?_)<;>simp (disch:=omega) only[push_cast,qE]))
 refine callV en_139 (cIs (fun w' hw'=>containsFunc_walk w' lo ah aa ac (hah.sy hlo hw' (fun p hp=>Nat.le_trans hlo (hL p hp))) (Nat.le_trans hlo hw'.size) hac hac2 140 _ (fun g=>decide (g.nm=f.nm)) en_140 (fun w'' hw'' g ga gc hg=>wrong1_walk w'' g ga gc bp f.nm ?_)) ?_)
 ·exact (At.of_own hw' (List.mem_cons_of_mem _ (List.mem_singleton.2 rfl)) rfl).of_block (hw''.rest _ (hw'.lt (List.mem_cons_of_mem _ (List.mem_singleton.2 rfl))) (by simp))
 refine sp ?_
 rw[Vc]
 refine sp ?_
 refine cdB (fun c4=>?_) (fun c4=>?_)
 ·refine sp ?_
  exact finIs hL (i64_eq (by unfold wrongN; rw[if_neg (by omega),if_neg (by omega),if_neg (fun h=>h c3'),if_pos c4]))
 have c4':¬ (ah.any (fun g=>decide (g.nm=f.nm))=true):=by rw[c4]; simp
 refine sp ?_
 repeat' (first|((first|((first|refine gT rfl ?_ ?_|refine gF rfl ?_ ?_|refine cdD ?_ ?_)<;>intro h)|((first|refine gbT rfl ?_ ?_|refine gbF rfl ?_ ?_|refine cdB ?_ ?_)<;>intro h<;>(try subst h))|refine lOa Shp.eq rfl ?_|refine lAa Shp.eq rfl rfl ?_|refine newI (fun b hb hn=>?_)|refine sXb Siz.eq rfl rfl ?_)<;>simp (disch:=omega) only[push_cast,qE]))
 refine callV en_141 (cIs (fun w' hw'=>fits_walk w' (hs.mono hw' hL) f.k f.wd f.id f.ix a f.sub.length c) ?_)
 refine sp ?_
 rw[Vc]
 refine sp ?_
 refine cdD (fun c5=>?_) (fun c5=>?_)
 ·refine sp ?_
  exact finIs hL (i64_eq (by unfold wrongN; rw[if_neg (by omega),if_neg (by omega),if_neg (fun h=>h c3'),if_neg c4',if_pos c5]))
 have c5':shapedF f:=Decidable.not_not.1 c5
 have hk20:f.k=20→f.sub≠[]:=fun h e=>by
  have h1:=c5'.2.2.2.1
  rw[e] at h1
  simp only[leastK,h] at h1
  simp at h1
 refine sp ?_
 repeat' (first|((first|((first|refine gT rfl ?_ ?_|refine gF rfl ?_ ?_|refine cdD ?_ ?_)<;>intro h)|((first|refine gbT rfl ?_ ?_|refine gbF rfl ?_ ?_|refine cdB ?_ ?_)<;>intro h<;>(try subst h))|refine lOa Shp.eq rfl ?_|refine lAa Shp.eq rfl rfl ?_|refine newI (fun b hb hn=>?_)|refine sXb Siz.eq rfl rfl ?_)<;>simp (disch:=omega) only[push_cast,qE]))
 refine callV en_142 (cIs (fun w' hw'=>nulls_walk w' f a c hk20 ((hf.sy hlo hw' (fun p hp=>Nat.le_trans hlo (hL p hp))).weaken (Nat.le_trans hlo hw'.size))) ?_)
 refine sp ?_
 refine forget (fun e=>e 3=.pointer (some ⟨bp,0,none⟩)∧e 7=.pointer (some ⟨b,0,none⟩)∧e 9=.bool (decide (f.id∈S))∧e 43=.bool (!nullsB f)) ⟨rfl,rfl,rfl,rfl⟩ ?_
 rintro e ⟨e3,e7,e9,e43⟩
 rw[Vc]
 simp (disch:=omega) only[push_cast,qE,e43]
 refine cdB (fun c6=>?_) (fun c6=>?_)
 ·refine sp ?_
  exact finIs hL (i64_eq (by unfold wrongN; rw[if_neg (by omega),if_neg (by omega),if_neg (fun h=>h c3'),if_neg c4',if_neg c5,if_pos (un c6)]))
 have c6':¬ nullsB f=false:=by simpa using c6
 simp (disch:=omega) only[push_cast,qE,e3,e7,e9]
 have pre:∀ P Q:Prop,[Decidable P]→[Decidable Q]→(P↔ind=true∧(f.k=19∨f.k=20))→(Q↔f.k=19∧(firstNl f=true∨f.id∈S))→wrongN pl ah f ind k S=if P then 36 else if Q then 36 else 0:=fun P Q _ _ h1 h2=>by
  unfold wrongN
  rw[if_neg (by omega),if_neg (by omega),if_neg (fun h=>h c3'),if_neg c4',if_neg c5,if_neg c6']
  simp only[h1,h2]
 by_cases hk:f.k=19
 ·obtain ⟨g,l,hl⟩:∃ g l,f.sub=g::l:=List.exists_cons_of_ne_nil (fun e=>by
   have h1:=c5'.2.2.2.1
   rw[e] at h1
   simp only[leastK,hk] at h1
   simp at h1)
  have hlen:0 < f.sub.length:=by rw[hl]; simp
  rw[hl] at hf
  obtain ⟨b',off,rfl,hb'⟩:=hf.some_of
  obtain ⟨a',c',x1,x2,x3⟩:=hf.get 0 rfl
  have hfn:firstNl f=g.nl:=by simp[firstNl,hl]
  have d19:decide (f.k=19)=true:=by simp[hk]
  have d20:decide (f.k=20)=false:=by simp[hk]
  repeat' (first|((first|((first|refine gT rfl ?_ ?_|refine gF rfl ?_ ?_|refine cdD ?_ ?_)<;>intro h)|((first|refine gbT rfl ?_ ?_|refine gbF rfl ?_ ?_|refine cdB ?_ ?_)<;>intro h<;>(try subst h))|refine lOa Shp.eq rfl ?_|refine lAa Shp.eq rfl rfl ?_|refine newI (fun b hb hn=>?_)|refine sXb Siz.eq rfl rfl ?_)<;>simp (disch:=omega) only[push_cast,qE,e3,e7,e9,d19,d20])|(first|rw[Vc]|rw[Vb])<;>(try simp (disch:=omega) only[push_cast,qE,e3,e7,e9,d19,d20]))
  ·exact finIs hL (i64_eq (by rw[pre _ _ Iff.rfl Iff.rfl,if_pos ⟨rfl,.inl hk⟩]))
  refine ldF (by exact sh_4) (x2.sub 1 [.bool g.nl] rfl) (out_of fun p hp=>Nat.lt_of_lt_of_le (Nat.lt_of_lt_of_le x1 hlo) (hL p hp)) ?_
  simp (disch:=omega) only[push_cast,qE,e3,e7,e9,d19,d20]
  repeat' (first|((first|((first|refine gT rfl ?_ ?_|refine gF rfl ?_ ?_|refine cdD ?_ ?_)<;>intro h)|((first|refine gbT rfl ?_ ?_|refine gbF rfl ?_ ?_|refine cdB ?_ ?_)<;>intro h<;>(try subst h))|refine lOa Shp.eq rfl ?_|refine lAa Shp.eq rfl rfl ?_|refine newI (fun b hb hn=>?_)|refine sXb Siz.eq rfl rfl ?_)<;>simp (disch:=omega) only[push_cast,qE,e3,e7,e9,d19,d20])|(first|rw[Vc]|rw[Vb])<;>(try simp (disch:=omega) only[push_cast,qE,e3,e7,e9,d19,d20]))
  all_goals (refine finIs hL (i64_eq ?_); rw[pre _ _ Iff.rfl Iff.rfl,if_neg (fun h=>by cases h.1)])
  all_goals rw[hfn] at *
  all_goals first
   | (rw[if_pos ⟨hk,.inl (by assumption)⟩])
   | (rw[if_pos ⟨hk,.inr (by assumption)⟩])
   | (rw[if_neg (fun h=>by rcases h with ⟨h1,h2|h2⟩<;>simp_all)])
 ·have d19:decide (f.k=19)=false:=by simp[hk]
  repeat' (first|((first|((first|refine gT rfl ?_ ?_|refine gF rfl ?_ ?_|refine cdD ?_ ?_)<;>intro h)|((first|refine gbT rfl ?_ ?_|refine gbF rfl ?_ ?_|refine cdB ?_ ?_)<;>intro h<;>(try subst h))|refine lOa Shp.eq rfl ?_|refine lAa Shp.eq rfl rfl ?_|refine newI (fun b hb hn=>?_)|refine sXb Siz.eq rfl rfl ?_)<;>simp (disch:=omega) only[push_cast,qE,e3,e7,e9,d19])|(first|rw[Vc]|rw[Vb])<;>(try simp (disch:=omega) only[push_cast,qE,e3,e7,e9,d19]))
  all_goals (refine finIs hL (i64_eq ?_); rw[pre _ _ Iff.rfl Iff.rfl])
  all_goals first
   | contradiction
   | rw[if_pos ⟨rfl,.inr (by assumption)⟩]
   | rw[if_neg (fun h=>by rcases h with ⟨h1,h2|h2⟩<;>first|contradiction|cases h1),if_neg (fun h=>hk h.1)]
end Go.Proofs.YtilejcofleeeiaaGreatDoor
