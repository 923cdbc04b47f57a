/- YtilejcofleeeiaaGreatDoor: plain: the texts of values; how long they are at most; what a field that may be is, names and all. -/
import Derived.Test.YtilejcofleeeiaaGreatDoorW85
namespace Go.Proofs.YtilejcofleeeiaaGreatDoor
open Go Go.K
open Nat renaming reduceEqDiff → qE
open List renaming mem_cons → qM, length_cons → qN, length_append → qA, length_nil → qO, getElem?_eq_getElem → qH
set_option maxRecDepth 100000
set_option linter.unusedVariables false
set_option linter.unusedSimpArgs false
set_option maxHeartbeats 2000000
def itemsN (d:Nat) (f:Fld) (l:List Vl) (i:Nat):Bool:=(List.range i).all fun j=>match f.sub[childN f j]?,l[j]? with|some g,some x=>fitD d g x|_,_=>false
theorem itemsD_eq (d:Nat) (f:Fld) (l:List Vl):itemsD d f l=(decide (f.k=16→(l.length:Int)=f.wd) && (decide (f.k=17→l.length=f.sub.length) && itemsN d f l l.length)):=rfl
theorem itemsN_succ {d:Nat} {f g:Fld} {l:List Vl} {i:Nat} {x:Vl} (hg:f.sub[childN f i]?=some g) (hx:l[i]?=some x):itemsN d f l (i+1)=(itemsN d f l i && fitD d g x):=by
 unfold itemsN
 rw[List.range_succ,List.all_append]
 simp[hg,hx]
theorem itemsN_no {d:Nat} {f:Fld} {l:List Vl} {i n:Nat} (hin:i≤n) (h:itemsN d f l i=false):itemsN d f l n=false:=by
 induction hin with
 | refl=>exact h
 | step _ ih =>
  unfold itemsN at *
  rw[List.range_succ,List.all_append,ih,Bool.false_and]
structure ItI (w0:World) (bx b4:Nat) (z:Int) (R:Own) (d:Nat) (f:Fld) (v:Vl) (a va:Option Addr) (c vc:Nat) (i:Nat) (wb:World) (e:Env) (ds:List Deferred) (L:Own):Prop where
 hw:wb=w0
 hds:ds=[]
 o:L=(qb1 b4 f a c)::fitO bx (z - wL (v.ls.take i))::R
 hi:i≤v.ls.length
 hn:itemsN d f v.ls i=true
 hz:wL (v.ls.take i)≤z
 h0:e 0=.pointer (some ⟨bx,0,none⟩)
 h4:e 4=.pointer (some ⟨b4,0,none⟩)
 h33:e 33=.slice va v.ls.length vc
 h34:e 34=i64 v.ls.length
 h35:e 35=i64 i
theorem perm3 {α:Type} (a b x:α) (R:List α):(a::b::x::R).Perm (x::a::b::R):=List.perm_middle (l₁:=[a,b])
theorem items_ok (d:Nat) (hF:FitsOK d):ItemsOK d:=by
 intro wb w lo bx z R f v a va c vc hTb hlo hok hk hA hV hz0 hz hR h4096 hw
 refine enterB (args:=[.pointer (some ⟨bx,0,none⟩),.agg #[i64 f.k,i64 f.wd,i64 f.id,i64 f.ix,.slice a f.sub.length c],.slice va v.ls.length vc]) Tryz.func80 rfl Tryz.ntmps80 (congrArg Array.toList Tryz.results80) (by kernel_rfl) (by simp) hw ?_
 obtain ⟨hsh,hsub⟩:=(show shapedF f∧∀ g∈f.sub,okD d g from hok)
 refine sp ?_
 refine newI (fun b4 hb4 hn4=>?_)
 refine sp ?_
 have hL1:∀ x:Obj,∀ p∈[(b4,x)],wb.heap.size≤p.1:=fun x p hp=>by rw[List.mem_singleton.1 hp]; exact hb4
 have hL2:∀ (x:Obj) (z:Int),∀ p∈(b4,x)::fitO bx z::R,wb.heap.size≤p.1:=fun x z9 p hp=>by
  simp only[qM] at hp
  rcases hp with rfl|rfl|hp
  ·exact hb4
  ·exact hR (fitO bx z) (.head _)
  ·exact hR p (.tail _ hp)
 refine lOn Shp.eq mem0 rfl ?_
 refine sp ?_
 have hwl:∀ i,i≤v.ls.length→(wL (v.ls.take i):Int)≤wL v.ls:=fun i hi=>by have:=wL_take_le v.ls i; omega
 refine gT rfl (fun h16=>?_) (fun h16=>?_)
 rotate_left
 focus
  refine sp ?_
  refine lOn Shp.eq mem0 rfl ?_
  refine sp ?_
  refine gT rfl (fun h17=>?_) (fun h17=>?_)
  focus
   refine sp ?_
   refine lOn Shp.eq mem0 rfl ?_
   refine sp ?_
   rw[Vc]
   refine sp ?_
   refine cdD (fun hn=>?_) (fun hn=>?_)
   ·refine sp ?_
    have hfd:itemsD d f v.ls=false:=by unfold itemsD; simp[h17]; intros; omega
    rw[hfd]
    exact fin_fit (A:=[_]) (hL1 _) (by simp) rfl
   have hi16:f.k=16→(v.ls.length:Int)=f.wd:=fun h=>absurd h (by omega)
   have hi17:f.k=17→v.ls.length=f.sub.length:=fun h=>by omega
   clear hn
  rotate_left
  focus
   have hi16:f.k=16→(v.ls.length:Int)=f.wd:=fun h=>absurd h (by omega)
   have hi17:f.k=17→v.ls.length=f.sub.length:=fun h=>absurd h (by omega)
   refine sp ?_
   rw[Vc]
  all_goals simp (disch:=omega) only[push_cast,qE]
  all_goals clear h17
 rotate_left
 rotate_left
 focus
  refine sp ?_
  refine lOn Shp.eq mem0 rfl ?_
  refine sp ?_
  refine gF rfl (fun hw16=>?_) (fun hw16=>?_)
  rotate_left
  ·refine sp ?_
   rw[Vc]
   refine sp ?_
   have hfd:itemsD d f v.ls=false:=by unfold itemsD; simp[h16]; intros; omega
   rw[hfd]
   exact fin_fit (A:=[_]) (hL1 _) (by simp) rfl
  refine sp ?_
  refine lOn Shp.eq mem0 rfl ?_
  refine sp ?_
  refine gT rfl (fun h17=>absurd h17 (by omega)) (fun h17=>?_)
  refine sp ?_
  have hi16:f.k=16→(v.ls.length:Int)=f.wd:=fun _=>by omega
  have hi17:f.k=17→v.ls.length=f.sub.length:=fun h=>absurd h (by omega)
  rw[Vc]
  refine sp ?_
  clear hw16 h17
 all_goals
  clear h16
  refine forget (fun e=>e 0=.pointer (some ⟨bx,0,none⟩)∧e 4=.pointer (some ⟨b4,0,none⟩)∧e 33=.slice va v.ls.length vc∧e 34=i64 v.ls.length∧e 35=i64 0) ⟨rfl,rfl,rfl,rfl,rfl⟩ ?_
  rintro e ⟨h0,h4,h33,h34,h35⟩
  rw[Vb]
  simp (disch:=omega) only[push_cast,qE,h0,h4,h33,h34,h35]
  refine loopW (G:=Nat) (ItI wb bx b4 z R d f v a va c vc) (fun i=>v.ls.length - i) 0 _ (fun w hw=>hw) (by kernel_rfl) ⟨rfl,rfl,by simp[wL],by omega,rfl,by simp[wL]; omega,h0,h4,h33,h34,un h35⟩ ?_
  clear h0 h4 h33 h34 h35 e
  rintro i wb e ds L ⟨rfl,rfl,rfl,hi,hn,hz',h0,h4,h33,h34,h35⟩
  simp (disch:=omega) only[push_cast,qE,h0,h4,h33,h34,h35]
  rw[Vc]
  simp (disch:=omega) only[push_cast,qE,h0,h4,h33,h34,h35]
  refine cdD (fun hlt=>?_) (fun hge=>?_)
  rotate_left
  ·obtain rfl:i=v.ls.length:=by omega
   simp (disch:=omega) only[push_cast,qE,h0,h4,h33,h34,h35]
   have hfd:itemsD d f v.ls=true:=by
    rw[itemsD_eq,decide_eq_true hi16,decide_eq_true hi17,hn]
    rfl
   rw[List.take_length] at hz'
   rw[List.take_length]
   exact fin_fit (A:=[_]) (hL1 _) (by intro _; rfl) (by rw[hfd,decide_eq_true hz']; rfl)
  have hli:i < v.ls.length:=by omega
  obtain ⟨x,hx⟩:∃ x,v.ls[i]?=some x:=⟨_,qH hli⟩
  obtain ⟨g,hg⟩:∃ g,f.sub[childN f i]?=some g:=by
   refine ⟨_,qH ?_⟩
   unfold childN
   by_cases h17:f.k=17
   ·rw[if_pos h17,← hi17 h17]; exact hli
   ·rw[if_neg h17]
    have h1:=hsh.2.2.2
    rcases hk with hk|hk|hk
    ·rw[hk] at h1; simp[leastK,mostK] at h1; omega
    ·rw[hk] at h1; simp[leastK,mostK] at h1; omega
    ·exact absurd hk h17
  have hg':=hg
  have hpos:childN f i < f.sub.length:=(List.getElem?_eq_some_iff.1 hg).1
  obtain ⟨gb,goff,ga,gc,rfl,g1,g2,g3⟩:=hA.get hg
  obtain ⟨xb,xoff,xa,xc,rfl,x1,x2,x3⟩:=hV.get hx
  have hfx:=wL_take hx
  simp (disch:=omega) only[push_cast,qE,h0,h4,h33,h34,h35]
  rw[Vb]
  simp (disch:=omega) only[push_cast,qE,h0,h4,h33,h34,h35]
  refine ldAggF Shp.eq x2 rfl (out_of (fun p hp=>Nat.lt_of_lt_of_le (Nat.lt_of_lt_of_le x1 hlo) (hL2 _ _ p hp))) ?_
  simp (disch:=omega) only[push_cast,qE,h0,h4,h33,h34,h35,Vl.cells]
  refine newI (fun b8 hb8 hn8=>?_)
  simp (disch:=omega) only[push_cast,qE,h0,h4,h33,h34,h35]
  refine sXa 0 rfl Siz.eq rfl rfl ?_
  simp (disch:=omega) only[push_cast,qE,h0,h4,h33,h34,h35]
  refine lOn Shp.eq mem1 rfl ?_
  simp (disch:=omega) only[push_cast,qE,h0,h4,h33,h34,h35]
  rw[Vc]
  simp (disch:=omega) only[push_cast,qE,h0,h4,h33,h34,h35]
  have hL3:∀ (x y:Obj) (z:Int),∀ p∈(b8,x)::(b4,y)::fitO bx z::R,wb.heap.size≤p.1:=fun x y z9 p hp=>by
   rcases List.mem_cons.1 hp with rfl|hp
   ·exact hb8
   ·exact hL2 _ _ p hp
  have hR2:∀ (z:Int) (x y:Obj),∀ p∈fitO bx z::(b8,x)::(b4,y)::R,wb.heap.size≤p.1:=fun z9 x y p hp=>by
   simp only[qM] at hp
   rcases hp with rfl|rfl|rfl|hp
   ·exact hR (fitO bx z) (.head _)
   ·exact hb8
   ·exact hb4
   ·exact hR p (.tail _ hp)
  have hL9:∀ x y:Obj,∀ p∈[(b8,x),(b4,y)],wb.heap.size≤p.1:=fun x y p hp=>by
   simp only[qM,List.mem_nil_iff,or_false] at hp
   rcases hp with rfl|rfl
   ·exact hb8
   ·exact hb4
  have hL8:∀ x:Obj,∀ p∈[(b8,x)],wb.heap.size≤p.1:=fun x p hp=>by rw[List.mem_singleton.1 hp]; exact hb8
  refine cdD (fun h17=>?_) (fun h17=>?_)
  focus
   have hch:childN f i=i:=if_pos (by omega)
   rw[hch] at g2 hpos hg'
  rotate_left
  focus
   have hch:childN f i=0:=if_neg (by omega)
   rw[hch] at g2 hpos hg'
   rw[Nat.zero_mul,Nat.add_zero] at g2
  all_goals
   simp (disch:=omega) only[push_cast,qE,h0,h4,h33,h34,h35]
   refine drawTT 7 (by kernel_rfl) (by kernel_rfl) mixed (by kernel_rfl) rfl rfl ?_
   simp (disch:=omega) only[push_cast,qE,h0,h4,h33,h34,h35]
   refine lOn Shp.eq mem1 rfl ?_
   simp (disch:=omega) only[push_cast,qE,h0,h4,h33,h34,h35]
   refine ldAggF Shp.eq g2 rfl (out_of (fun p hp=>Nat.lt_of_lt_of_le (Nat.lt_of_lt_of_le g1 hlo) (hL3 _ _ _ p hp))) ?_
   simp (disch:=omega) only[push_cast,qE,h0,h4,h33,h34,h35,Fld.cells]
   refine lAg Shp.eq mem0 rfl rfl ?_
   simp (disch:=omega) only[push_cast,qE,h0,h4,h33,h34,h35]
   refine callV en_45 (callX_base (fun w' hw'=>hF wb w' lo bx (z - wL (v.ls.take i)) _ g x ga xa gc xc hTb hlo (hsub g (List.mem_of_getElem? hg)) g3 x3 (by omega) (by omega) (hR2 _ _ _) (hw'.perm (perm3 _ _ _ R))) ?_)
   rintro e' w' ⟨rfl,z',hz'',hs⟩
   refine ⟨_,_,rfl,hs,?_⟩
   simp (disch:=omega) only[push_cast,qE,h0,h4,h33,h34,h35]
   rw[Vc]
   simp (disch:=omega) only[push_cast,qE,h0,h4,h33,h34,h35]
   refine cdB (fun hb=>?_) (fun hb=>?_)
   ·simp (disch:=omega) only[push_cast,qE,h0,h4,h33,h34,h35]
    have hres:(itemsD d f v.ls && decide ((wL v.ls:Int)≤z))=false:=by
     rw[Bool.not_eq_true'] at hb
     rcases Bool.and_eq_false_iff.1 hb with hb|hb
     ·have h2:=itemsN_no (n:=v.ls.length) (by omega) (show itemsN d f v.ls (i+1)=false by rw[itemsN_succ (by rw[hch]; exact hg') hx,hb,Bool.and_false])
      rw[itemsD_eq,h2]; simp
     ·have h2:=hwl (i+1) (by omega)
      have h3:=of_decide_eq_false hb
      rw[decide_eq_false (by omega),Bool.and_false]
    exact fin_fit2 (A:=[_,_]) (hL9 _ _) (by rw[hres]; simp) (by rw[hres])
   ·rw[Bool.not_eq_false'] at hb
    simp (disch:=omega) only[push_cast,qE,h0,h4,h33,h34,h35]
    have h3:=hz'' hb
    rw[Bool.and_eq_true] at hb
    have h4':=of_decide_eq_true hb.2
    refine ⟨i+1,_,fun w hw=>((hw.mid [fitO bx z'] [_] (hL8 _))).perm (List.Perm.swap _ _ _),⟨rfl,rfl,by rw[show z'=z - wL (v.ls.take (i+1)) by omega],by omega,by rw[itemsN_succ (by rw[hch]; exact hg') hx,hn,hb.1]; rfl,by omega,h0,h4,h33,h34,uu⟩,by omega⟩
theorem fits_all:∀ d,FitsOK d
 | 0=>fun wb w lo bx z R f v a va c vc hTb hlo hok=>absurd hok (by simp[okD])
 | d+1=>fits_step d (fits_all d) (items_ok d (fits_all d))
def mayD (f:Fld):Bool:=decide ((checkP [f] []).1=0)
def goodD (f:Fld) (v:Vl):Bool:=fitD 64 f v && decide ((wV v:Int)≤4194304)
def fitsP (f:Fld) (v:Vl):Int:=if mayD f=true then (if goodD f v=true then 0 else 7) else 5
theorem mayD_okD {f:Fld} (h:mayD f=true):okD 64 f:=may_okD (nt:=[]) (by unfold mayP; simpa [mayD] using h)
theorem good_walk (w:World) (lo:Nat) (hTb:TabsAt w) (hlo:lo≤w.heap.size) (f:Fld) (v:Vl) (a va:Option Addr) (c vc:Nat) (hok:okD 64 f) (hA:FlAt w lo f a c) (hV:VAt w lo v va vc) :
 Calls Tryz.prog 22 #[.agg (f.cells a c).toArray,.agg (v.cells va vc).toArray] w (Rets w (Is (.bool (goodD f v)))):=by
 refine enterT (args:=[.agg (f.cells a c).toArray,.agg (v.cells va vc).toArray]) Tryz.func22 rfl Tryz.ntmps22 (congrArg Array.toList Tryz.results22) (by kernel_rfl) (by simp) (Sy.refl w) ?_
 simp (disch:=omega) only[push_cast,qE,Fld.cells,Vl.cells]
 refine newI (fun b2 hb2 hn2=>?_)
 simp (disch:=omega) only[push_cast,qE,Fld.cells,Vl.cells]
 refine newI (fun b3 hb3 hn3=>?_)
 simp (disch:=omega) only[push_cast,qE,Fld.cells,Vl.cells]
 refine newI (fun b5 hb5 hn5=>?_)
 simp (disch:=omega) only[push_cast,qE,Fld.cells,Vl.cells]
 refine lAg Shp.eq mem2 rfl rfl ?_
 refine sp ?_
 refine lAg Shp.eq mem1 rfl rfl ?_
 refine sp ?_
 have hL:∀ x y z:Obj,∀ p∈[(b5,x),(b3,y),(b2,z)],w.heap.size≤p.1:=fun x y z p hp=>by
  simp only[qM,List.mem_nil_iff,or_false] at hp
  rcases hp with rfl|rfl|rfl
  ·exact hb5
  ·exact hb3
  ·exact hb2
 refine callV en_45 (callX_base (fun w' hw'=>fits_all 64 w w' lo b5 4194304 [_,_] f v a va c vc hTb hlo hok hA hV (by decide) (by decide) (hL _ _ _) hw') ?_)
 rintro e' w' ⟨rfl,z',hz',hs⟩
 refine ⟨_,_,rfl,hs,?_⟩
 refine sp ?_
 exact finIs (hL _ _ _) rfl
theorem may_walk (w:World) (hs:SaysAt w) (lo:Nat) (hlo:lo≤w.heap.size) (f:Fld) (a:Option Addr) (c:Nat) (hA:FlAt w lo f a c) (hfn:f.nm.length≤9223372036854775807) :
 Calls Tryz.prog 21 #[.agg (f.cells a c).toArray] w (Rets w (Is (.bool (mayD f)))):=by
 refine enterT (args:=[.agg (f.cells a c).toArray]) Tryz.func21 rfl Tryz.ntmps21 (congrArg Array.toList Tryz.results21) (by kernel_rfl) (by simp) (Sy.refl w) ?_
 simp (disch:=omega) only[push_cast,qE,Fld.cells]
 refine newI (fun b1 hb1 hn1=>?_)
 simp (disch:=omega) only[push_cast,qE,Fld.cells]
 refine lAg Shp.eq mem0 rfl rfl ?_
 refine sp ?_
 have hL:∀ x:Obj,∀ p∈[(b1,x)],w.heap.size≤p.1:=fun x p hp=>by rw[List.mem_singleton.1 hp]; exact hb1
 refine callV en_44 (cNw (fun w' hw'=>checkField_walk w' (hs.mono hw' (hL _)) lo (Nat.le_trans hlo hw'.size) f a c (hA.sy hlo hw' (hL _)).hr hA.hc hA.hc2 hfn) (fun v M hM _ hv=>?_))
 obtain ⟨pa,pc,rfl,-⟩:=hv
 refine sp ?_
 refine finIs (fun p hp=>?_) rfl
 rcases List.mem_append.1 hp with hp|hp
 ·exact hM p hp
 ·exact hL _ p hp
set_option maxHeartbeats 40000000
theorem fit_wrap {d:Nat} {f g:Fld} {x:Vl} (hn:x.nu=false) (hk:f.k=19∨f.k=20) (hg:f.sub[0]?=some g) (h:fitD (d+1) f x=true):fitD d g x=true:=by
 rw[fitD,if_neg (by simp[hn]),if_pos hk,hg,Bool.and_eq_true] at h
 exact h.2
theorem fit_union {d:Nat} {f:Fld} {x:Vl} (hn:x.nu=false) (hk:f.k=18) (h:fitD (d+1) f x=true):∃ g z,f.sub[x.num.toNat]?=some g∧x.ls[0]?=some z∧x.ls.length=1∧0≤x.num∧x.num < f.sub.length∧fitD d g z=true:=by
 rw[fitD,if_neg (by simp[hn]),if_neg (by omega),if_pos hk] at h
 simp only[Bool.and_eq_true,decide_eq_true_eq] at h
 obtain ⟨_,_,h1,h2,h3,h4⟩:=h
 obtain ⟨g,hg⟩:∃ g,f.sub[x.num.toNat]?=some g:=⟨_,qH (by omega)⟩
 obtain ⟨z,hz⟩:∃ z,x.ls[0]?=some z:=⟨_,qH (by omega)⟩
 rw[hg,hz] at h4
 exact ⟨g,z,hg,hz,h3,h1,h2,h4⟩
theorem fit_list {d:Nat} {f:Fld} {x:Vl} (hn:x.nu=false) (hk:f.k=15∨f.k=16∨f.k=17) (h:fitD (d+1) f x=true):(f.k=16→(x.ls.length:Int)=f.wd)∧(f.k=17→x.ls.length=f.sub.length)∧x.num=0∧x.tx=[]∧∀ i z,x.ls[i]?=some z→∃ g,f.sub[childN f i]?=some g∧fitD d g z=true:=by
 rw[fitD,if_neg (by simp[hn]),if_neg (by omega),if_neg (by omega),if_pos hk] at h
 simp only[Bool.and_eq_true,decide_eq_true_eq,List.all_eq_true] at h
 obtain ⟨_,h0,h1,h2,h3,h4⟩:=h
 refine ⟨h2,h3,h0,h1,fun i z hz=>?_⟩
 have h5:=h4 i (List.mem_range.2 (List.getElem?_eq_some_iff.1 hz).1)
 rw[hz] at h5
 rcases hg:f.sub[childN f i]? with _|g
 ·rw[hg] at h5; simp at h5
 ·rw[hg] at h5
  exact ⟨g,rfl,h5⟩
def escP (c:UInt8):List UInt8 :=
 if c.toNat=9 then [92,116] else if c.toNat=10 then [92,110] else if c.toNat=13 then [92,114] else if c.toNat=34 then [92,34] else if c.toNat=92 then [92,92]
 else if c.toNat < 32∨c.toNat=127 then [92,120,hexC (c.toNat / 16),hexC (c.toNat % 16)] else []
def charT (c:UInt8):List UInt8:=if escP c=[] then [c] else escP c
def byteT (c:UInt8):List UInt8:=[hexC (c.toNat / 16),hexC (c.toNat % 16)]
def textT (s:List UInt8):List UInt8:=34::(s.flatMap charT++[34])
def bytesT (s:List UInt8):List UInt8:=120::34::(s.flatMap byteT++[34])
def nullT:List UInt8:=[110,117,108,108]
def itemT (f:Fld) (T:Fld→Vl→List UInt8) (i:Nat) (x:Vl):List UInt8 :=
 (if i=0 then [] else [44])++((match f.sub[i]? with|some g=>if f.k=17 then g.nm++[58] else []|none=>[])++(match f.sub[childN f i]? with|some g=>T g x|none=>[]))
def itemsT (f:Fld) (T:Fld→Vl→List UInt8):Nat→List Vl→List UInt8
 | _,[]=>[]
 | i,x::l=>itemT f T i x++itemsT f T (i+1) l
def showV:Nat→Fld→Vl→List UInt8
 | 0,_,_=>[]
 | d+1,f,v =>
  if v.nu=true then nullT
  else if f.k=19∨f.k=20 then (match f.sub[0]? with|some g=>showV d g v|none=>[])
  else if f.k=12 then textT v.tx
  else if f.k=13∨f.k=14 then bytesT v.tx
  else if f.k=18 then (match f.sub[v.num.toNat]?,v.ls[0]? with|some g,some x=>g.nm++40::(showV d g x++[41])|_,_=>[])
  else if f.k=15∨f.k=16∨f.k=17 then (if f.k=17 then 123 else 91)::(itemsT f (showV d) 0 v.ls++[if f.k=17 then 125 else 93])
  else numT f.k v.num
theorem itemsT_app (f:Fld) (T:Fld→Vl→List UInt8):∀ (l:List Vl) (i:Nat) (m:List Vl),itemsT f T i (l++m)=itemsT f T i l++itemsT f T (i+l.length) m
 | [],i,m=>rfl
 | x::l,i,m=>by
  rw[List.cons_append,itemsT,itemsT,itemsT_app f T l (i+1) m,List.append_assoc,qN,show i+1+l.length=i+(l.length+1) by omega]
theorem itemsT_take {f:Fld} {T:Fld→Vl→List UInt8} {l:List Vl} {i:Nat} {x:Vl} (h:l[i]?=some x):itemsT f T 0 (l.take (i+1))=itemsT f T 0 (l.take i)++itemT f T i x:=by
 have hi:=(List.getElem?_eq_some_iff.1 h).1
 rw[List.take_add_one,h,Option.toList_some,itemsT_app]
 rw[show 0+(l.take i).length=i by rw[List.length_take]; omega]
 show _++(itemT f T i x++[])=_
 rw[List.append_nil]
def okT:Nat→Bool→Fld→Prop
 | 0,_,_=>False
 | d+1,ind,f=>(shapedF f∧nullsB f=true∧(f.k=19→firstNl f=false)∧(ind=true→¬ (f.k=19∨f.k=20))∧isName f.nm∧(∀ (i j:Nat) (g h:Fld),f.sub[i]?=some g→f.sub[j]?=some h→g.nm=h.nm→i=j))∧∀ g∈f.sub,okT d (ind || f.k == 19) g
theorem nd_sub:∀ (d:Nat) (path:List Nat) (ind:Bool) (l:List Fld) (i:Nat) (f:Fld),l[i]?=some f→⟨path++[i],l.take i,f,ind⟩∈nd (d+1) path ind l∧∀ x∈nd d (path++[i]) (ind || f.k == 19) f.sub,x∈nd (d+1) path ind l:=by
 intro d path ind l i f hi
 have hm:(f,i)∈l.zipIdx:=List.mem_iff_getElem?.2 ⟨i,by simp[hi]⟩
 rw[nd]
 exact ⟨List.mem_flatMap.2 ⟨(f,i),hm,.head _⟩,fun x hx=>List.mem_flatMap.2 ⟨(f,i),hm,.tail _ hx⟩⟩
def okN (x:FNode):Prop:=shapedF x.f∧nullsB x.f=true∧(x.f.k=19→firstNl x.f=false)∧(x.ind=true→¬ (x.f.k=19∨x.f.k=20))∧isName x.f.nm∧x.ah.any (fun g=>decide (g.nm=x.f.nm))=false
theorem names_apart {d:Nat} {path:List Nat} {ind:Bool} {l:List Fld} (h:∀ x∈nd (d+1) path ind l,okN x):∀ (i j:Nat) (g k:Fld),l[i]?=some g→l[j]?=some k→g.nm=k.nm→i=j:=by
 have key:∀ (i j:Nat) (g k:Fld),i < j→l[i]?=some g→l[j]?=some k→g.nm≠k.nm:=by
  intro i j g k hij hi hj he
  have h1:=(h _ (nd_sub d path ind l j k hj).1).2.2.2.2.2
  simp only[List.any_eq_false,decide_eq_true_eq] at h1
  refine h1 g (List.mem_iff_getElem?.2 ⟨i,?_⟩) he
  rw[List.getElem?_take_of_lt hij]
  exact hi
 intro i j g k hi hj he
 rcases Nat.lt_trichotomy i j with h1|h1|h1
 ·exact absurd he (key i j g k h1 hi hj)
 ·exact h1
 ·exact absurd he.symm (key j i k g h1 hj hi)
theorem okT_of:∀ (d:Nat) (path:List Nat) (ind:Bool) (l:List Fld),(∀ x∈nd (d+1) path ind l,okN x∧x.path.length≤path.length+d)→∀ f∈l,okT d ind f
 | 0,path,ind,l,h,f,hf=>by
  obtain ⟨i,hi⟩:=List.mem_iff_getElem?.1 hf
  have:=(h _ (nd_sub 0 path ind l i f hi).1).2
  simp only[qA,qN,qO] at this
  omega
 | d+1,path,ind,l,h,f,hf=>by
  obtain ⟨i,hi⟩:=List.mem_iff_getElem?.1 hf
  obtain ⟨q1,q2⟩:=nd_sub (d+1) path ind l i f hi
  obtain ⟨⟨a1,a2,a3,a4,a5,_⟩,_⟩:=h _ q1
  refine ⟨⟨a1,a2,a3,a4,a5,names_apart (d:=d) (path:=path++[i]) (ind:=ind || f.k == 19) fun x hx=>(h x (q2 x hx)).1⟩,okT_of d (path++[i]) (ind || f.k == 19) f.sub fun x hx=>?_⟩
  have:=h x (q2 x hx)
  refine ⟨this.1,?_⟩
  have:=this.2
  simp only[qA,qN,qO] at this ⊢
  omega
theorem may_okT {f:Fld} (h:mayD f=true):okT 64 false f:=by
 have h:mayP [f] []=true:=by unfold mayP; simpa [mayD] using h
 refine okT_of 64 [] false [f] (fun x hx=>?_) f (.head _)
 obtain ⟨i,hi⟩:=List.mem_iff_getElem?.1 hx
 have h1:=(checkP_zero h).2.2.2 i
 unfold wrongAt at h1
 rw[hi] at h1
 simp only at h1
 have h2:=(wrongN_many h1).1
 refine ⟨?_,un h2⟩
 unfold wrongN at h1
 by_cases q1:64 < x.path.length
 ·rw[if_pos q1] at h1; cases h1
 rw[if_neg q1] at h1
 by_cases q2:(256:Int)≤i
 ·rw[if_pos q2] at h1; cases h1
 rw[if_neg q2] at h1
 by_cases q3:¬ isName x.f.nm
 ·rw[if_pos q3] at h1; cases h1
 rw[if_neg q3] at h1
 by_cases q4:x.ah.any (fun g=>decide (g.nm=x.f.nm))=true
 ·rw[if_pos q4] at h1; cases h1
 rw[if_neg q4] at h1
 by_cases q5:¬ shapedF x.f
 ·rw[if_pos q5] at h1; cases h1
 rw[if_neg q5] at h1
 by_cases q6:nullsB x.f=false
 ·rw[if_pos q6] at h1; cases h1
 rw[if_neg q6] at h1
 by_cases q7:x.ind=true∧(x.f.k=19∨x.f.k=20)
 ·rw[if_pos q7] at h1; cases h1
 rw[if_neg q7] at h1
 refine ⟨Decidable.not_not.1 q5,un q6,fun h19=>?_,fun hi hk=>q7 ⟨hi,hk⟩,Decidable.not_not.1 q3,un q4⟩
 cases hf:firstNl x.f with
 | false=>rfl
 | true=>rw[if_pos ⟨h19,.inl hf⟩] at h1; cases h1
theorem okT.okD:∀ {d:Nat} {ind:Bool} {f:Fld},okT d ind f→okD d f
 | 0,_,_,h=>h
 | d+1,_,_,h=>⟨h.1.1,fun g hg=>okT.okD (h.2 g hg)⟩
theorem okT.name:∀ {d:Nat} {ind:Bool} {f:Fld},okT d ind f→isName f.nm
 | 0,_,_,h=>h.elim
 | d+1,_,_,h=>h.1.2.2.2.2.1
/-! How long the texts are at most. -/
theorem nDig_le:∀ (k u:Nat),u < 10 ^ (k+1)→(Lib.decDigits u).length≤k+1
 | 0,u,h=>by rw[Lib.decDigits,dif_pos (un h)]; simp
 | k+1,u,h=>by
  rw[Lib.decDigits]
  split
  ·simp
  ·have:=nDig_le k (u / 10) (by rw[Nat.pow_succ] at h; omega)
   simp only[qA,qN,qO]
   omega
theorem dec_len {u:Nat} (h:u < 18446744073709551616):(Lib.decDigits u).length≤20:=nDig_le 19 u (by have:(10:Nat) ^ 20=100000000000000000000:=rfl; omega)
theorem itoa_len {n:Int} (h1 : -9223372036854775808≤n) (h2:n < 9223372036854775808):(Lib.itoa n).length≤21:=by
 unfold Lib.itoa
 split
 ·have:=dec_len (u:=n.natAbs) (by omega)
  rw[qN]; omega
 ·have:=dec_len (u:=n.toNat) (by omega)
  omega
theorem floatU_len {x:Nat} (hx:x < 9223372036854775808):(floatU x).length≤42:=by
 unfold floatU
 split
 ·split
  ·simp
  ·rw[qA,hexs_len]; simp
 ·split
  ·simp
  ·rename_i hp h0
   obtain ⟨⟨q1,q2,q3,q4⟩,_⟩:=bits_forth (x:=x) (by omega) (by omega)
   have h1:=dec_len (u:=oddM x) (by omega)
   have hl:1≤blen (oddM x):=by have:=(blen_spec (m:=oddM x) (by omega)).2.2; omega
   have h2:=itoa_len (n:=oddE x) (by omega) (by omega)
   unfold finT
   rw[qA,qN]
   omega
theorem numT_len (k:Int) {n:Int} (h1 : -9223372036854775808≤n) (h2:n < 9223372036854775808):(numT k n).length≤43:=by
 unfold numT
 split
 ·unfold boolT; split<;>simp
 ·split
  ·have:=dec_len (u:=unsP n) (by unfold unsP; omega)
   omega
  ·split
   ·unfold floatT
    have:=floatU_len (x:=magU n) (by unfold magU; omega)
    split
    ·rw[qN]; omega
    ·omega
   ·have:=itoa_len h1 h2
    omega
theorem esc_len (c:UInt8):(escP c).length≤4:=by unfold escP; (repeat' split)<;>simp
theorem char_len (c:UInt8):1≤(charT c).length∧(charT c).length≤4:=by
 unfold charT
 split
 ·simp
 ·rename_i h
  exact ⟨List.length_pos_iff.2 h,esc_len c⟩
theorem flat_le (F:UInt8→List UInt8) (h:∀ c,(F c).length≤4):∀ s:List UInt8,(s.flatMap F).length≤4 * s.length
 | []=>by simp
 | c::s=>by
  rw[List.flatMap_cons,qA,qN]
  have:=flat_le F h s
  have:=h c
  omega
theorem textT_len (s:List UInt8):(textT s).length≤4 * s.length+2:=by
 unfold textT
 have:=flat_le charT (fun c=>(char_len c).2) s
 simp only[qN,qA,qO]
 omega
theorem bytesT_len (s:List UInt8):(bytesT s).length≤4 * s.length+3:=by
 unfold bytesT
 have:=flat_le byteT (fun c=>by simp[byteT]) s
 simp only[qN,qA,qO]
 omega
def rngD:Nat→Vl→Prop
 | 0,_=>True
 | d+1,v=>(-9223372036854775808≤v.num∧v.num < 9223372036854775808)∧∀ x∈v.ls,rngD d x
theorem rng_down:∀ (d:Nat) (v:Vl),rngD (d+1) v→rngD d v
 | 0,v,h=>trivial
 | d+1,v,h=>⟨h.1,fun x hx=>rng_down d x (h.2 x hx)⟩
theorem wV_pos (v:Vl):16≤wV v:=by rw[wV_eq]; omega
theorem wL_mem {x:Vl}:∀ {l:List Vl},x∈l→wV x≤wL l
 | [],h=>by cases h
 | y::l,h=>by
  rw[wL]
  rcases List.mem_cons.1 h with rfl|h
  ·omega
  ·have:=wL_mem h; omega
theorem items_len {f:Fld} {T:Fld→Vl→List UInt8} (hn:∀ g∈f.sub,g.nm.length≤48):∀ (l:List Vl) (i:Nat),(∀ (j:Nat) (x:Vl),l[j]?=some x→(match f.sub[childN f (i+j)]? with|some g=>T g x|none=>([]:List UInt8)).length+50≤10 * wV x)→(itemsT f T i l).length≤10 * wL l
 | [],i,h=>by simp[itemsT]
 | x::l,i,h=>by
  have h1:=h 0 x rfl
  simp only[Nat.add_zero] at h1
  have h2:=items_len hn l (i+1) (fun j y hj=>by rw[show i+1+j=i+(j+1) by omega]; exact h (j+1) y (un hj))
  rw[itemsT,wL,qA]
  have h3:(itemT f T i x).length≤10 * wV x:=by
   unfold itemT
   simp only[qA]
   have q1:(if i=0 then ([]:List UInt8) else [44]).length≤1:=by split<;>simp
   have q2:(match f.sub[i]? with|some g=>if f.k=17 then g.nm++[58] else []|none=>([]:List UInt8)).length≤49:=by
    split
    ·rename_i g hg
     have:=hn g (List.mem_of_getElem? hg)
     split
     ·rw[qA,List.length_singleton]; omega
     ·simp
    ·simp
   omega
  omega
theorem show_len:∀ (d:Nat) (f:Fld) (v:Vl) (ind:Bool),okT d ind f→fitD d f v=true→rngD d v→(showV d f v).length+50≤10 * wV v
 | 0,f,v,ind,h,_,_=>h.elim
 | d+1,f,v,ind,h,hf,hr=>by
  have hw:=wV_pos v
  have hwe:=wV_eq v
  have hnm:∀ g∈f.sub,g.nm.length≤48:=fun g hg=>((h.2 g hg).name).2.2
  have hrv:=hr.1
  rw[showV]
  by_cases hnu:v.nu=true
  ·rw[if_pos hnu]
   simp only[nullT,qN,qO]
   omega
  have hnf:v.nu=false:=by simpa using hnu
  rw[if_neg hnu]
  by_cases hA:f.k=19∨f.k=20
  ·rw[if_pos hA]
   have hlen:1≤f.sub.length:=by
    have h1:=h.1.1.2.2.2.1
    rcases hA with hk|hk<;>rw[hk] at h1<;>simp[leastK] at h1<;>omega
   obtain ⟨g,hg⟩:∃ g,f.sub[0]?=some g:=⟨_,qH (by omega)⟩
   rw[hg]
   exact show_len d g v _ (h.2 g (List.mem_of_getElem? hg)) (fit_wrap hnf hA hg hf) (rng_down d v hr)
  rw[if_neg hA]
  by_cases h12:f.k=12
  ·rw[if_pos h12]
   have:=textT_len v.tx
   omega
  rw[if_neg h12]
  by_cases h13:f.k=13∨f.k=14
  ·rw[if_pos h13]
   have:=bytesT_len v.tx
   omega
  rw[if_neg h13]
  by_cases h18:f.k=18
  ·rw[if_pos h18]
   obtain ⟨g,z,hg,hz,hl,_,_,hgz⟩:=fit_union hnf h18 hf
   rw[hg,hz]
   have h1:=show_len d g z _ (h.2 g (List.mem_of_getElem? hg)) hgz (hr.2 z (List.mem_of_getElem? hz))
   have h2:=hnm g (List.mem_of_getElem? hg)
   have h3:=wL_mem (List.mem_of_getElem? hz)
   simp only[qA,qN,qO]
   omega
  rw[if_neg h18]
  by_cases h15:f.k=15∨f.k=16∨f.k=17
  ·rw[if_pos h15]
   have h1:=items_len (f:=f) (T:=showV d) hnm v.ls 0 (fun j x hj=>by
    obtain ⟨g,hg,hgx⟩:=(fit_list hnf h15 hf).2.2.2.2 j x hj
    rw[Nat.zero_add,hg]
    exact show_len d g x _ (h.2 g (List.mem_of_getElem? hg)) hgx (hr.2 x (List.mem_of_getElem? hj)))
   simp only[qA,qN,qO]
   omega
  rw[if_neg h15]
  have:=numT_len f.k hrv.1 hrv.2
  omega
end Go.Proofs.YtilejcofleeeiaaGreatDoor
