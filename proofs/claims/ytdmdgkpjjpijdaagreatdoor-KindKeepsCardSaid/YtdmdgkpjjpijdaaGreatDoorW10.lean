/- YtdmdgkpjjpijdaaGreatDoor: walks, part 10: are two fields alike? -/
import Derived.Test.YtdmdgkpjjpijdaaGreatDoorW9
namespace Go.Proofs.YtdmdgkpjjpijdaaGreatDoor
open Go Go.K
open Nat renaming reduceEqDiff → qE
open List renaming mem_cons → qM, mem_nil_iff → qI, getElem?_eq_getElem → qH
set_option maxRecDepth 100000
set_option linter.unusedVariables false
set_option linter.unusedSimpArgs false
set_option maxHeartbeats 4000000
def eqP (p:Fld→Fld→Bool):List Fld→List Fld→Bool
 | [],[]=>true
 | f::l,g::m=>p f g && eqP p l m
 | _,_=>false
theorem eqP_len {p:Fld→Fld→Bool}:∀ {l m:List Fld},eqP p l m=true→l.length=m.length
 | [],[],_=>rfl
 | f::l,g::m,h=>by simp only[eqP,Bool.and_eq_true] at h; simp[eqP_len h.2]
 | [],_::_,h=>by cases h
 | _::_,[],h=>by cases h
theorem eqP_iff {p:Fld→Fld→Bool}:∀ {l m:List Fld},l.length=m.length→(eqP p l m=true↔∀ (j:Nat) (f g:Fld),l[j]?=some f→m[j]?=some g→p f g=true)
 | [],[],_=>by simp[eqP]
 | f::l,g::m,h=>by
  simp only[eqP,Bool.and_eq_true]
  rw[eqP_iff (l:=l) (m:=m) (un h)]
  constructor
  ·rintro ⟨h1,h2⟩ j f' g' hf hg
   cases j with
   | zero=>simp at hf hg; subst hf; subst hg; exact h1
   | succ j=>exact h2 j f' g' (un hf) (un hg)
  ·intro h1
   exact ⟨h1 0 f g rfl rfl,fun j f' g' hf hg=>h1 (j+1) f' g' (un hf) (un hg)⟩
 | [],_::_,h=>by simp at h
 | _::_,[],h=>by simp at h
mutual
def sameF:Fld→Fld→Bool
 | .mk _ _ k wd id ix sub,g=>decide (k=g.k) && decide (wd=g.wd) && decide (id=g.id) && decide (ix=g.ix) && sameL sub g.sub
def sameL:List Fld→List Fld→Bool
 | [],[]=>true
 | f::l,g::m=>(decide (f.nm=g.nm) && (f.nl == g.nl) && sameF f g) && sameL l m
 | _,_=>false
end
def sameN (f g:Fld):Bool:=decide (f.nm=g.nm) && (f.nl == g.nl) && sameF f g
theorem sameL_eq:∀ (l m:List Fld),sameL l m=eqP sameN l m
 | [],[]=>by simp[sameL,eqP]
 | f::l,g::m=>by simp only[sameL,eqP,sameN,sameL_eq l m]
 | [],_::_=>by simp[sameL,eqP]
 | _::_,[]=>by simp[sameL,eqP]
theorem sameF_eq (f g:Fld):sameF f g=(decide (f.k=g.k) && decide (f.wd=g.wd) && decide (f.id=g.id) && decide (f.ix=g.ix) && sameL f.sub g.sub):=by
 cases f; simp only[sameF]; rfl
structure EqI (w0:World) (l m:List Fld) (a a':Option Addr) (c c':Nat) (fv:Value) (p:Fld→Fld→Bool) (i:Nat) (wb:World) (e:Env) (ds:List Deferred) (L:Own):Prop where
 hw:wb=w0
 d:ds=[]
 o:L=[]
 il:i≤l.length
 n:∀ j f g,j < i→l[j]?=some f→m[j]?=some g→p f g=true
 h0:e 0=.slice a l.length c
 h1:e 1=.slice a' m.length c'
 h2:e 2=fv
 h15:e 15=.slice a l.length c
 h16:e 16=i64 l.length
 h17:e 17=i64 i
theorem equalFunc_walk (w:World) (lo:Nat) (hlo:lo≤w.heap.size) (l m:List Fld) (a a':Option Addr) (c c':Nat) (hr:Rd w lo a l) (hr':Rd w lo a' m) (hc:l.length≤c) (hc2:c≤9223372036854775807) (hc':m.length≤c') (hc2':c'≤9223372036854775807) (g:FuncId) (p:Fld→Fld→Bool) (hen:entersB Tryz.prog g=true)
 (hg:∀ w' x y xa ya xc yc,x∈l→y∈m→x.sub.length≤xc→y.sub.length≤yc→xc≤9223372036854775807→yc≤9223372036854775807→lo≤w'.heap.size→Rd w' lo xa x.sub→Rd w' lo ya y.sub→Calls Tryz.prog g #[.agg (x.cells xa xc).toArray,.agg (y.cells ya yc).toArray] w' (Rets w' (Is (.bool (p x y))))) :
 Calls Tryz.prog 91 #[.slice a l.length c,.slice a' m.length c',.func (.func g) #[] #[]] w (Rets w (Is (.bool (eqP p l m)))):=by
 refine enterT (args:=[.slice a l.length c,.slice a' m.length c',.func (.func g) #[] #[]]) Tryz.func91 rfl Tryz.ntmps91 (congrArg Array.toList Tryz.results91) (by kernel_rfl) (by simp) (Sy.refl w) ?_
 refine sp ?_
 rw[Vc]
 refine sp ?_
 refine cdD (fun hne=>?_) (fun heq=>?_)
 ·refine sp ?_
  have:eqP p l m=false:=by
   cases h:eqP p l m with
   | false=>rfl
   | true=>exact absurd (eqP_len h) (by omega)
  exact finIs (by simp) (by rw[this])
 have hlm:l.length=m.length:=by omega
 refine sp ?_
 repeat' (first|((first|((first|refine gT rfl ?_ ?_|refine gF rfl ?_ ?_|refine cdD ?_ ?_)<;>intro h)|((first|refine gbT rfl ?_ ?_|refine gbF rfl ?_ ?_|refine cdB ?_ ?_)<;>intro h<;>(try subst h))|refine lOa Shp.eq rfl ?_|refine lAa Shp.eq rfl rfl ?_|refine newI (fun b hb hn=>?_)|refine sXb Siz.eq rfl rfl ?_)<;>simp (disch:=omega) only[push_cast,qE]))
 rw[Vb]
 refine sp ?_
 refine loopW (G:=Nat) (EqI w l m a a' c c' (.func (.func g) #[] #[]) p) (fun i=>l.length - i) 0 [] (fun w hw=>hw) (by kernel_rfl) ⟨rfl,rfl,rfl,by omega,by omega,rfl,rfl,rfl,rfl,rfl,rfl⟩ ?_
 rintro i wb e ds L ⟨rfl,rfl,rfl,hil,hno,h0,h1,h2,h15,h16,h17⟩
 simp (disch:=omega) only[push_cast,qE,h0,h1,h2,h15,h16,h17]
 rw[Vc]
 simp (disch:=omega) only[push_cast,qE,h0,h1,h2,h15,h16,h17]
 refine cdD (fun hlt=>?_) (fun hge=>?_)
 ·obtain ⟨f,hf⟩:∃ f,l[i]?=some f:=⟨_,qH (by omega)⟩
  obtain ⟨f',hf'⟩:∃ f,m[i]?=some f:=⟨_,qH (by omega)⟩
  obtain ⟨x0,l0,rfl⟩:∃ f l',l=f::l':=List.exists_cons_of_ne_nil (by rintro rfl; simp at hf)
  obtain ⟨y0,m0,rfl⟩:∃ f l',m=f::l':=List.exists_cons_of_ne_nil (by rintro rfl; simp at hf')
  obtain ⟨b,off,rfl,hb⟩:=hr.some_of
  obtain ⟨b',off',rfl,hb'⟩:=hr'.some_of
  obtain ⟨fa,fc,x1,x2,x3,x4,x5,x6⟩:=hr.get i hf
  obtain ⟨fa',fc',y1,y2,y3,y4,y5,y6⟩:=hr'.get i hf'
  have hlt2:i < m0.length+1:=by have:=(List.getElem?_eq_some_iff.1 hf').1; simpa using this
  simp (disch:=omega) only[push_cast,qE,h0,h1,h2,h15,h16,h17]
  rw[Vb]
  simp (disch:=omega) only[push_cast,qE,h0,h1,h2,h15,h16,h17]
  refine ldAggF sh_37 x2 rfl (by simp) ?_
  simp (disch:=omega) only[push_cast,qE,h0,h1,h2,h15,h16,h17,Fld.cells]
  refine newI (fun b8 hb8 hn8=>?_)
  have hL8:∀ x,∀ p∈[(b8,(x:Obj))],wb.heap.size≤p.1:=fun x p hp=>by rw[List.mem_singleton.1 hp]; exact hb8
  simp (disch:=omega) only[push_cast,qE,h0,h1,h2,h15,h16,h17]
  repeat' (first|((first|((first|refine gT rfl ?_ ?_|refine gF rfl ?_ ?_|refine cdD ?_ ?_)<;>intro h)|((first|refine gbT rfl ?_ ?_|refine gbF rfl ?_ ?_|refine cdB ?_ ?_)<;>intro h<;>(try subst h))|refine lOa Shp.eq rfl ?_|refine lAa Shp.eq rfl rfl ?_|refine newI (fun b hb hn=>?_)|refine sXb Siz.eq rfl rfl ?_)<;>simp (disch:=omega) only[push_cast,qE,h0,h1,h2,h15,h16,h17]))
  refine ldAggF sh_37 y2 rfl (out_of (fun p hp=>Nat.lt_of_lt_of_le (Nat.lt_of_lt_of_le y1 hlo) (hL8 _ p hp))) ?_
  simp (disch:=omega) only[push_cast,qE,h0,h1,h2,h15,h16,h17,Fld.cells]
  refine newI (fun b9 hb9 hn9=>?_)
  simp (disch:=omega) only[push_cast,qE,h0,h1,h2,h15,h16,h17]
  repeat' (first|((first|((first|refine gT rfl ?_ ?_|refine gF rfl ?_ ?_|refine cdD ?_ ?_)<;>intro h)|((first|refine gbT rfl ?_ ?_|refine gbF rfl ?_ ?_|refine cdB ?_ ?_)<;>intro h<;>(try subst h))|refine lOa Shp.eq rfl ?_|refine lAa Shp.eq rfl rfl ?_|refine newI (fun b hb hn=>?_)|refine sXb Siz.eq rfl rfl ?_)<;>simp (disch:=omega) only[push_cast,qE,h0,h1,h2,h15,h16,h17]))
  have hL9:∀ x y,∀ p∈[(b9,(x:Obj)),(b8,y)],wb.heap.size≤p.1:=fun x y p hp=>by
   simp only[qM,qI,or_false] at hp
   rcases hp with rfl|rfl<;>assumption
  refine callV hen (cIs (fun w' hw'=>hg w' f f' fa fa' fc fc' (List.mem_of_getElem? hf) (List.mem_of_getElem? hf') x3 y3 x5 y5 (Nat.le_trans hlo hw'.size) (x6.sy hlo hw' (fun p hp=>Nat.le_trans hlo (hL9 _ _ p hp))) (y6.sy hlo hw' (fun p hp=>Nat.le_trans hlo (hL9 _ _ p hp)))) ?_)
  simp (disch:=omega) only[push_cast,qE,h0,h1,h2,h15,h16,h17]
  rw[Vc]
  simp (disch:=omega) only[push_cast,qE,h0,h1,h2,h15,h16,h17]
  refine cdB (fun hp=>?_) (fun hp=>?_)
  ·simp (disch:=omega) only[push_cast,qE,h0,h1,h2,h15,h16,h17]
   have hpf:p f f'=false:=by simpa using hp
   refine finIs (hL9 _ _) ?_
   have:eqP p (x0::l0) (y0::m0)=false:=by
    cases h:eqP p (x0::l0) (y0::m0) with
    | false=>rfl
    | true=>have:=(eqP_iff hlm).1 h i f f' hf hf'; rw[hpf] at this; cases this
   rw[this]
  ·simp (disch:=omega) only[push_cast,qE,h0,h1,h2,h15,h16,h17]
   have hpf:p f f'=true:=by simpa using hp
   refine ⟨i+1,[],fun w hw=>hw.drop (List.nil_sublist _) (fun p hp=>.inr (hL9 _ _ p hp)),⟨rfl,rfl,rfl,by omega,fun j u v hj hu hv=>?_,h0,h1,h2,h15,h16,uu⟩,by
    show (x0::l0).length - (i+1) < (x0::l0).length - i
    omega⟩
   rcases Nat.lt_or_ge j i with h|h
   ·exact hno j u v h hu hv
   ·obtain rfl:j=i:=by omega
    rw[hf] at hu; rw[hf'] at hv
    cases hu; cases hv
    exact hpf
 ·simp (disch:=omega) only[push_cast,qE,h0,h1,h2,h15,h16,h17]
  exact finIs (by simp) (by rw[(eqP_iff hlm).2 (fun j f g hf hg=>hno j f g (by have:=(List.getElem?_eq_some_iff.1 hf).1; omega) hf hg)])
def SameOK (n:Nat):Prop:=∀ (w:World) (lo:Nat),lo≤w.heap.size→∀ (f g:Fld) (a a':Option Addr) (c c':Nat),SizeOf.sizeOf f < n→Rd w lo a f.sub→Rd w lo a' g.sub→f.sub.length≤c→g.sub.length≤c'→c≤9223372036854775807→c'≤9223372036854775807 →
 Calls Tryz.prog 59 #[.agg (f.tcells a c).toArray,.agg (g.tcells a' c').toArray] w (Rets w (Is (.bool (sameF f g))))
theorem same1_walk (n:Nat) (hS:SameOK n) (w:World) (lo:Nat) (hlo:lo≤w.heap.size) (f g:Fld) (a a':Option Addr) (c c':Nat) (hsz:SizeOf.sizeOf f < n) (hr:Rd w lo a f.sub) (hr':Rd w lo a' g.sub) (hc:f.sub.length≤c) (hc':g.sub.length≤c') (hc2:c≤9223372036854775807) (hc2':c'≤9223372036854775807) :
 Calls Tryz.prog 92 #[.agg (f.cells a c).toArray,.agg (g.cells a' c').toArray] w (Rets w (Is (.bool (sameN f g)))):=by
 refine enterT (args:=[.agg (f.cells a c).toArray,.agg (g.cells a' c').toArray]) Tryz.func92 rfl Tryz.ntmps92 (congrArg Array.toList Tryz.results92) (by kernel_rfl) (by simp) (Sy.refl w) ?_
 simp (disch:=omega) only[push_cast,qE,Fld.cells]
 refine newI (fun b2 hb2 hn2=>?_)
 simp (disch:=omega) only[push_cast,qE,Fld.cells]
 refine newI (fun b3 hb3 hn3=>?_)
 have hL:∀ x y,∀ p∈[(b3,(x:Obj)),(b2,y)],w.heap.size≤p.1:=fun x y p hp=>by
  simp only[qM,qI,or_false] at hp
  rcases hp with rfl|rfl<;>assumption
 refine sp ?_
 by_cases h1:f.nm=g.nm
 ·have d1:decide (f.nm=g.nm)=true:=decide_eq_true h1
  repeat' (first|((first|((first|refine gT rfl ?_ ?_|refine gF rfl ?_ ?_|refine cdD ?_ ?_)<;>intro h)|((first|refine gbT rfl ?_ ?_|refine gbF rfl ?_ ?_|refine cdB ?_ ?_)<;>intro h<;>(try subst h))|refine lOa Shp.eq rfl ?_|refine lAa Shp.eq rfl rfl ?_|refine newI (fun b hb hn=>?_)|refine sXb Siz.eq rfl rfl ?_)<;>simp (disch:=omega) only[push_cast,qE,d1])|(first|rw[Vc]|rw[Vb])<;>(try simp (disch:=omega) only[push_cast,qE,d1]))
  ·refine callV en_59 (cIs (fun w' hw'=>hS w' lo (Nat.le_trans hlo hw'.size) f g a a' c c' hsz (hr.sy hlo hw' (fun p hp=>Nat.le_trans hlo (hL _ _ p hp))) (hr'.sy hlo hw' (fun p hp=>Nat.le_trans hlo (hL _ _ p hp))) hc hc' hc2 hc2') ?_)
   refine sp ?_
   refine finIs (hL _ _) ?_
   unfold sameN
   simp[h1,h]
  ·refine finIs (hL _ _) ?_
   unfold sameN
   simp[h1,h]
 ·have d1:decide (f.nm=g.nm)=false:=decide_eq_false h1
  repeat' (first|((first|((first|refine gT rfl ?_ ?_|refine gF rfl ?_ ?_|refine cdD ?_ ?_)<;>intro h)|((first|refine gbT rfl ?_ ?_|refine gbF rfl ?_ ?_|refine cdB ?_ ?_)<;>intro h<;>(try subst h))|refine lOa Shp.eq rfl ?_|refine lAa Shp.eq rfl rfl ?_|refine newI (fun b hb hn=>?_)|refine sXb Siz.eq rfl rfl ?_)<;>simp (disch:=omega) only[push_cast,qE,d1])|(first|rw[Vc]|rw[Vb])<;>(try simp (disch:=omega) only[push_cast,qE,d1]))
  refine finIs (hL _ _) ?_
  unfold sameN
  simp[h1]
theorem same_step (n:Nat) (hS:SameOK n):SameOK (n+1):=by
 intro w lo hlo f g a a' c c' hsz hr hr' hc hc' hc2 hc2'
 refine enterT (args:=[.agg (f.tcells a c).toArray,.agg (g.tcells a' c').toArray]) Tryz.func59 rfl Tryz.ntmps59 (congrArg Array.toList Tryz.results59) (by kernel_rfl) (by simp) (Sy.refl w) ?_
 simp (disch:=omega) only[push_cast,qE,Fld.tcells]
 refine newI (fun b2 hb2 hn2=>?_)
 simp (disch:=omega) only[push_cast,qE,Fld.tcells]
 refine newI (fun b3 hb3 hn3=>?_)
 have hL:∀ x y,∀ p∈[(b3,(x:Obj)),(b2,y)],w.heap.size≤p.1:=fun x y p hp=>by
  simp only[qM,qI,or_false] at hp
  rcases hp with rfl|rfl<;>assumption
 refine sp ?_
 repeat' (first|((first|((first|refine gT rfl ?_ ?_|refine gF rfl ?_ ?_|refine cdD ?_ ?_)<;>intro h)|((first|refine gbT rfl ?_ ?_|refine gbF rfl ?_ ?_|refine cdB ?_ ?_)<;>intro h<;>(try subst h))|refine lOa Shp.eq rfl ?_|refine lAa Shp.eq rfl rfl ?_|refine newI (fun b hb hn=>?_)|refine sXb Siz.eq rfl rfl ?_)<;>simp (disch:=omega) only[push_cast,qE])|(first|rw[Vc]|rw[Vb])<;>(try simp (disch:=omega) only[push_cast,qE]))
 case' refine_1.refine_1.refine_1.refine_2=>skip
 all_goals first
  | (refine finIs (hL _ _) ?_; rw[sameF_eq]; simp_all; done)
  | skip
 refine callV en_91 (cIs (fun w' hw'=>equalFunc_walk w' lo (Nat.le_trans hlo hw'.size) f.sub g.sub a a' c c' (hr.sy hlo hw' (fun p hp=>Nat.le_trans hlo (hL _ _ p hp))) (hr'.sy hlo hw' (fun p hp=>Nat.le_trans hlo (hL _ _ p hp))) hc hc2 hc' hc2' 92 sameN (by kernel_rfl) (fun w2 x y xa ya xc yc hx hy h1 h2 h3 h4 h5 h6 h7=>same1_walk n hS w2 lo h5 x y xa ya xc yc (by
  have h8:=List.sizeOf_lt_of_mem hx
  have h9:SizeOf.sizeOf f.sub < SizeOf.sizeOf f:=by cases f; simp only[Fld.sub,Fld.mk.sizeOf_spec]; omega
  omega) h6 h7 h1 h2 h3 h4)) ?_)
 refine sp ?_
 refine finIs (hL _ _) ?_
 rw[sameF_eq,sameL_eq]
 simp_all
theorem same_walk (w:World) (lo:Nat) (hlo:lo≤w.heap.size) (f g:Fld) (a a':Option Addr) (c c':Nat) (hr:Rd w lo a f.sub) (hr':Rd w lo a' g.sub) (hc:f.sub.length≤c) (hc':g.sub.length≤c') (hc2:c≤9223372036854775807) (hc2':c'≤9223372036854775807) :
 Calls Tryz.prog 59 #[.agg (f.tcells a c).toArray,.agg (g.tcells a' c').toArray] w (Rets w (Is (.bool (sameF f g)))):=by
 have key:∀ n,SameOK n:=fun n=>by
  induction n with
  | zero=>intro w lo hlo f g a a' c c' hsz; omega
  | succ n ih=>exact same_step n ih
 exact key (SizeOf.sizeOf f+1) w lo hlo f g a a' c c' (by omega) hr hr' hc hc' hc2 hc2'
def alikeFP (f g:Fld):Bool:=mayP [f] [] && mayP [g] [] && (f.nl == g.nl) && sameF f g
theorem alikeFields_walk (w:World) (hs:SaysAt w) (lo:Nat) (hlo:lo≤w.heap.size) (f g:Fld) (a a':Option Addr) (c c':Nat) (hr:Rd w lo a f.sub) (hr':Rd w lo a' g.sub) (hc:f.sub.length≤c) (hc':g.sub.length≤c') (hc2:c≤9223372036854775807) (hc2':c'≤9223372036854775807) (hfn:f.nm.length≤9223372036854775807) (hgn:g.nm.length≤9223372036854775807) :
 Calls Tryz.prog 32 #[.agg #[str f.nm,.bool f.nl,i64 f.k,i64 f.wd,i64 f.id,i64 f.ix,.slice a f.sub.length c],.agg #[str g.nm,.bool g.nl,i64 g.k,i64 g.wd,i64 g.id,i64 g.ix,.slice a' g.sub.length c']] w (Rets w (Is (.bool (alikeFP f g)))):=by
 refine enterT (args:=[.agg #[str f.nm,.bool f.nl,i64 f.k,i64 f.wd,i64 f.id,i64 f.ix,.slice a f.sub.length c],.agg #[str g.nm,.bool g.nl,i64 g.k,i64 g.wd,i64 g.id,i64 g.ix,.slice a' g.sub.length c']]) Tryz.func32 rfl Tryz.ntmps32 (congrArg Array.toList Tryz.results32) (by kernel_rfl) (by simp) (Sy.refl w) ?_
 refine sp ?_
 refine newI (fun b2 hb2 hn2=>?_)
 refine sp ?_
 refine newI (fun b3 hb3 hn3=>?_)
 have hL:∀ x y,∀ p∈[(b3,(x:Obj)),(b2,y)],w.heap.size≤p.1:=fun x y p hp=>by
  simp only[qM,qI,or_false] at hp
  rcases hp with rfl|rfl<;>assumption
 refine sp ?_
 repeat' (first|((first|((first|refine gT rfl ?_ ?_|refine gF rfl ?_ ?_|refine cdD ?_ ?_)<;>intro h)|((first|refine gbT rfl ?_ ?_|refine gbF rfl ?_ ?_|refine cdB ?_ ?_)<;>intro h<;>(try subst h))|refine lOa Shp.eq rfl ?_|refine lAa Shp.eq rfl rfl ?_|refine newI (fun b hb hn=>?_)|refine sXb Siz.eq rfl rfl ?_)<;>simp (disch:=omega) only[push_cast,qE])|(first|rw[Vc]|rw[Vb])<;>(try simp (disch:=omega) only[push_cast,qE]))
 refine callV en_49 (callX_newR (fun w' hw'=>checkField_walk w' (hs.mono hw' (hL _ _)) lo (Nat.le_trans hlo hw'.size) f a c (hr.sy hlo hw' (fun p hp=>Nat.le_trans hlo (hL _ _ p hp))) hc hc2 hfn) (fun v M hM hMn ⟨pa,pc,hv,_⟩=>?_))
 subst hv
 have hLM:∀ x y,∀ p∈([(b3,(x:Obj)),(b2,y)]++M),w.heap.size≤p.1:=fun x y p hp=>by
  rcases List.mem_append.1 hp with hp|hp
  ·exact hL x y p hp
  ·exact hM p hp
 refine sp ?_
 refine gT rfl (fun h=>?_) (fun h=>?_)
 ·refine sp ?_
  repeat' (first|((first|((first|refine gT rfl ?_ ?_|refine gF rfl ?_ ?_|refine cdD ?_ ?_)<;>intro h)|((first|refine gbT rfl ?_ ?_|refine gbF rfl ?_ ?_|refine cdB ?_ ?_)<;>intro h<;>(try subst h))|refine lOa Shp.eq rfl ?_|refine lAa Shp.eq rfl rfl ?_|refine newI (fun b hb hn=>?_)|refine sXb Siz.eq rfl rfl ?_)<;>simp (disch:=omega) only[push_cast,qE])|(first|rw[Vc]|rw[Vb])<;>(try simp (disch:=omega) only[push_cast,qE]))
  refine callV en_49 (callX_newR (fun w' hw'=>checkField_walk w' (hs.mono hw' (hLM _ _)) lo (Nat.le_trans hlo hw'.size) g a' c' (hr'.sy hlo hw' (fun p hp=>Nat.le_trans hlo (hLM _ _ p hp))) hc' hc2' hgn) (fun v M2 hM2 hMn2 ⟨pa2,pc2,hv,_⟩=>?_))
  subst hv
  have hLM2:∀ x y,∀ p∈((b3,(x:Obj))::(b2,y)::(M++M2)),w.heap.size≤p.1:=fun x y p hp=>by
   simp only[qM,List.mem_append] at hp
   rcases hp with rfl|rfl|hp|hp
   ·assumption
   ·assumption
   ·exact hM p hp
   ·exact hM2 p hp
  refine sp ?_
  refine gT rfl (fun h2=>?_) (fun h2=>?_)
  ·refine sp ?_
   repeat' (first|((first|((first|refine gT rfl ?_ ?_|refine gF rfl ?_ ?_|refine cdD ?_ ?_)<;>intro h)|((first|refine gbT rfl ?_ ?_|refine gbF rfl ?_ ?_|refine cdB ?_ ?_)<;>intro h<;>(try subst h))|refine lOa Shp.eq rfl ?_|refine lAa Shp.eq rfl rfl ?_|refine newI (fun b hb hn=>?_)|refine sXb Siz.eq rfl rfl ?_)<;>simp (disch:=omega) only[push_cast,qE])|(first|rw[Vc]|rw[Vb])<;>(try simp (disch:=omega) only[push_cast,qE]))
   ·refine callV en_59 (cIs (fun w' hw'=>same_walk w' lo (Nat.le_trans hlo hw'.size) f g a a' c c' (hr.sy hlo hw' (fun p hp=>Nat.le_trans hlo (hLM2 _ _ p hp))) (hr'.sy hlo hw' (fun p hp=>Nat.le_trans hlo (hLM2 _ _ p hp))) hc hc' hc2 hc2') ?_)
    refine sp ?_
    refine finIs (hLM2 _ _) ?_
    unfold alikeFP mayP
    simp_all
   ·refine finIs (hLM2 _ _) ?_
    unfold alikeFP mayP
    simp_all
  ·refine sp ?_
   repeat' (first|((first|((first|refine gT rfl ?_ ?_|refine gF rfl ?_ ?_|refine cdD ?_ ?_)<;>intro h)|((first|refine gbT rfl ?_ ?_|refine gbF rfl ?_ ?_|refine cdB ?_ ?_)<;>intro h<;>(try subst h))|refine lOa Shp.eq rfl ?_|refine lAa Shp.eq rfl rfl ?_|refine newI (fun b hb hn=>?_)|refine sXb Siz.eq rfl rfl ?_)<;>simp (disch:=omega) only[push_cast,qE])|(first|rw[Vc]|rw[Vb])<;>(try simp (disch:=omega) only[push_cast,qE]))
   refine finIs (hLM2 _ _) ?_
   unfold alikeFP mayP
   simp[h2]
 ·refine sp ?_
  repeat' (first|((first|((first|refine gT rfl ?_ ?_|refine gF rfl ?_ ?_|refine cdD ?_ ?_)<;>intro h)|((first|refine gbT rfl ?_ ?_|refine gbF rfl ?_ ?_|refine cdB ?_ ?_)<;>intro h<;>(try subst h))|refine lOa Shp.eq rfl ?_|refine lAa Shp.eq rfl rfl ?_|refine newI (fun b hb hn=>?_)|refine sXb Siz.eq rfl rfl ?_)<;>simp (disch:=omega) only[push_cast,qE])|(first|rw[Vc]|rw[Vb])<;>(try simp (disch:=omega) only[push_cast,qE]))
  refine finIs (hLM _ _) ?_
  unfold alikeFP mayP
  simp[h]
end Go.Proofs.YtdmdgkpjjpijdaaGreatDoor
