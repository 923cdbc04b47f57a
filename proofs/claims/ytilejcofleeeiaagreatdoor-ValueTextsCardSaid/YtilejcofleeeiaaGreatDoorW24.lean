/- YtilejcofleeeiaaGreatDoor: walks, part 24: the reference's: what is wrong with a field. -/
import Derived.Test.YtilejcofleeeiaaGreatDoorW21
import Derived.Test.YtilejcofleeeiaaGreatDoorKo
import Derived.Test.YtilejcofleeeiaaGreatDoorKs
namespace Go.Proofs.YtilejcofleeeiaaGreatDoor
open Go Go.K
open Nat renaming reduceEqDiff → qE
open Go.Value renaming oneCell' → qC
open List renaming getElem?_eq_getElem → qH
set_option maxRecDepth 100000
set_option linter.unusedVariables false
set_option linter.unusedSimpArgs false
set_option maxHeartbeats 4000000
def NodeW (w:World) (lo:Nat) (x:FNode) (cs:List Value):Prop:=∃ (pa fa aa:Option Addr) (pc fc ac:Nat),
 cs=[.slice pa x.path.length pc,str x.f.nm,.bool x.f.nl,i64 x.f.k,i64 x.f.wd,i64 x.f.id,i64 x.f.ix,.slice fa x.f.sub.length fc,.slice aa x.ah.length ac,.bool x.ind] ∧
 Rd w lo fa x.f.sub∧x.f.sub.length≤fc∧x.f.nm.length≤9223372036854775807∧Rd w lo aa x.ah∧x.ah.length≤ac∧ac≤9223372036854775807
def NodesW (w:World) (lo:Nat) (b:Nat) (os:List FNode):Prop:=∀ i x,os[i]?=some x→∃ cs,At w b (i * 10) cs∧NodeW w lo x cs
structure TwiceI (w0:World) (b5 b6:Nat) (o5 o6:Obj) (x:FNode) (aa:Option Addr) (ac:Nat) (v0:Value) (k:Nat) (i:Nat) (wb:World) (e:Env) (ds:List Deferred) (L:Own):Prop where
 hw:wb=w0
 hds:ds=[]
 o:L=[(b6,o6),(b5,o5)]
 il:i≤x.ah.length
 no:∀ (j:Nat) g,j < i→x.ah[j]?=some g→g.nm≠x.f.nm
 h0:e 0=v0
 h1:e 1=i64 k
 h5:e 5=.pointer (some ⟨b5,0,none⟩)
 h6:e 6=.pointer (some ⟨b6,0,none⟩)
 h28:e 28=.slice aa x.ah.length ac
 h29:e 29=i64 x.ah.length
 h30:e 30=i64 i
structure AgainI (w0:World) (b5 b6:Nat) (o5 o6:Obj) (x:FNode) (b cap:Nat) (os:List FNode) (k:Nat) (i:Nat) (wb:World) (e:Env) (ds:List Deferred) (L:Own):Prop where
 hw:wb=w0
 hds:ds=[]
 o:L=[(b6,o6),(b5,o5)]
 il:i≤k
 no:∀ (j:Nat) y,j < i→os[j]?=some y→¬ (y.f.k=19∧y.f.id=x.f.id)
 h6:e 6=.pointer (some ⟨b6,0,none⟩)
 h73:e 73=.slice (some ⟨b,0,none⟩) k cap
 h74:e 74=i64 k
 h75:e 75=i64 i
theorem ids_mem {os:List FNode} {k:Nat} {x:Int}:x∈idsOf (os.take k)↔∃ j y,j < k∧os[j]?=some y∧y.f.k=19∧y.f.id=x:=by
 simp only[idsOf,List.mem_map,List.mem_filter,beq_iff_eq]
 constructor
 ·rintro ⟨n,⟨h1,h2⟩,h3⟩
  obtain ⟨j,hj⟩:=List.mem_iff_getElem?.1 h1
  rw[List.getElem?_take] at hj
  split at hj
  ·exact ⟨j,n,by assumption,hj,h2,h3⟩
  ·cases hj
 ·rintro ⟨j,y,h1,h2,h3,h4⟩
  exact ⟨y,⟨List.mem_iff_getElem?.2 ⟨j,by rw[List.getElem?_take,if_pos h1]; exact h2⟩,h3⟩,h4⟩
theorem wrongR_walk (w:World) (lo:Nat) (hlo:lo≤w.heap.size) (rb cap:Nat) (os:List FNode) (hnodes:NodesW w lo rb os) (hcap:os.length≤cap) (hol:os.length≤1000) (k:Nat) (x:FNode) (hx:os[k]?=some x) :
 Calls Tryz.prog 123 #[.slice (some ⟨rb,0,none⟩) os.length cap,i64 k] w (Rets w (Is (i64 (wrongN x.path.length x.ah x.f x.ind k (idsOf (os.take k)))))):=by
 refine enterT (args:=[.slice (some ⟨rb,0,none⟩) os.length cap,i64 k]) Tryz.func123 rfl Tryz.ntmps123 (congrArg Array.toList Tryz.results123) (by kernel_rfl) (by simp) (Sy.refl w) ?_
 have hkl:=(List.getElem?_eq_some_iff.1 hx).1
 obtain ⟨cs,hat,pa,fa,aa,pc,fc,ac,rfl,hrf,hfc,hnm,hra,hac,hac2⟩:=hnodes k x hx
 have hblt:=hat.lt
 refine sp ?_
 refine ldAggF sh_165 (un hat) rfl (by simp) ?_
 refine sp ?_
 refine newI (fun b5 hb5 hn5=>?_)
 refine sp ?_
 repeat' (first|((first|refine gT rfl (fun h=>?_) (fun h=>?_)|refine gF rfl (fun h=>?_) (fun h=>?_)|refine cdD (fun h=>?_) (fun h=>?_)|(refine gbT rfl (fun h=>?_) (fun h=>?_)<;>(try subst h))|(refine gbF rfl (fun h=>?_) (fun h=>?_)<;>(try subst h))|(refine cdB (fun h=>?_) (fun h=>?_)<;>(try subst h))|refine lOn Shp.eq (by (first|exact mem0|exact mem1|exact mem2|exact mem3|exact mem4|exact mem5)) rfl ?_|refine lAg Shp.eq (by (first|exact mem0|exact mem1|exact mem2|exact mem3|exact mem4|exact mem5)) rfl rfl ?_|refine newI (fun b hb hn=>?_)|refine stX 0 rfl Siz.eq rfl rfl (by simp[qC]) (by simp) ?_|refine stX 1 rfl Siz.eq rfl rfl (by simp[qC]) (by simp) ?_|refine stX 2 rfl Siz.eq rfl rfl (by simp[qC]) (by simp) ?_|refine stX 3 rfl Siz.eq rfl rfl (by simp[qC]) (by simp) ?_|refine stX 4 rfl Siz.eq rfl rfl (by simp[qC]) (by simp) ?_|refine stX 5 rfl Siz.eq rfl rfl (by simp[qC]) (by simp) ?_|refine stX 6 rfl Siz.eq rfl rfl (by simp[qC]) (by simp) ?_)<;>simp (disch:=omega) only[push_cast,qE]))
 obtain ⟨b6,rfl⟩:∃ b6,b6=b:=⟨b,rfl⟩
 have hL:∀ x y,∀ p∈[(b6,(x:Obj)),(b5,y)],w.heap.size≤p.1:=fun x y p hp=>by
  simp only[List.mem_cons,List.mem_nil_iff,or_false] at hp
  rcases hp with rfl|rfl<;>assumption
 have o6:∀ x y w',Sy w [(b6,(x:Obj)),(b5,y)] w'→True:=fun _ _ _ _=>trivial
 refine forget (fun e=>e 0=.slice (some ⟨rb,0,none⟩) os.length cap∧e 1=i64 k∧e 5=.pointer (some ⟨b5,0,none⟩)∧e 6=.pointer (some ⟨b6,0,none⟩)∧e 20=.bool (decide (64 < (x.path.length:Int)))) ⟨rfl,rfl,rfl,rfl,rfl⟩ ?_
 rintro e ⟨h0,h1,h5,h6,h20⟩
 rw[Vc]
 simp (disch:=omega) only[push_cast,qE,h0,h1,h5,h6,h20]
 refine cdD (fun c1=>?_) (fun c1=>?_)
 ·simp (disch:=omega) only[push_cast,qE,h0,h1,h5,h6]
  exact finIs (hL _ _) (i64_eq (by unfold wrongN; rw[if_pos (by omega)]))
 simp (disch:=omega) only[push_cast,qE,h0,h1,h5,h6]
 rw[Vc]
 simp (disch:=omega) only[push_cast,qE,h0,h1,h5,h6]
 refine cdD (fun c2=>?_) (fun c2=>?_)
 ·simp (disch:=omega) only[push_cast,qE,h0,h1,h5,h6]
  exact finIs (hL _ _) (i64_eq (by unfold wrongN; rw[if_neg (by omega),if_pos (by omega)]))
 simp (disch:=omega) only[push_cast,qE,h0,h1,h5,h6]
 repeat' (first|((first|refine gT rfl (fun h=>?_) (fun h=>?_)|refine gF rfl (fun h=>?_) (fun h=>?_)|refine cdD (fun h=>?_) (fun h=>?_)|(refine gbT rfl (fun h=>?_) (fun h=>?_)<;>(try subst h))|(refine gbF rfl (fun h=>?_) (fun h=>?_)<;>(try subst h))|(refine cdB (fun h=>?_) (fun h=>?_)<;>(try subst h))|refine lOn Shp.eq (by (first|exact mem0|exact mem1|exact mem2|exact mem3|exact mem4|exact mem5)) rfl ?_|refine lAg Shp.eq (by (first|exact mem0|exact mem1|exact mem2|exact mem3|exact mem4|exact mem5)) rfl rfl ?_|refine newI (fun b hb hn=>?_)|refine stX 0 rfl Siz.eq rfl rfl (by simp[qC]) (by simp) ?_|refine stX 1 rfl Siz.eq rfl rfl (by simp[qC]) (by simp) ?_|refine stX 2 rfl Siz.eq rfl rfl (by simp[qC]) (by simp) ?_|refine stX 3 rfl Siz.eq rfl rfl (by simp[qC]) (by simp) ?_|refine stX 4 rfl Siz.eq rfl rfl (by simp[qC]) (by simp) ?_|refine stX 5 rfl Siz.eq rfl rfl (by simp[qC]) (by simp) ?_|refine stX 6 rfl Siz.eq rfl rfl (by simp[qC]) (by simp) ?_)<;>simp (disch:=omega) only[push_cast,qE,h0,h1,h5,h6]))
 refine callV en_147 (callX_ex (fun w _=>isNameR_walk w x.f.nm hnm) (fun v ⟨nb,hv,hnb⟩=>?_))
 subst hv
 simp (disch:=omega) only[push_cast,qE,h0,h1,h5,h6]
 rw[Vc]
 simp (disch:=omega) only[push_cast,qE,h0,h1,h5,h6]
 refine cdB (fun c3=>?_) (fun c3=>?_)
 ·simp (disch:=omega) only[push_cast,qE,h0,h1,h5,h6]
  have c3':¬ isName x.f.nm:=fun h=>by rw[hnb.2 h] at c3; cases c3
  exact finIs (hL _ _) (i64_eq (by unfold wrongN; rw[if_neg (by omega),if_neg (by omega),if_pos c3']))
 have c3':isName x.f.nm:=hnb.1 (un c3)
 simp (disch:=omega) only[push_cast,qE,h0,h1,h5,h6]
 repeat' (first|((first|refine gT rfl (fun h=>?_) (fun h=>?_)|refine gF rfl (fun h=>?_) (fun h=>?_)|refine cdD (fun h=>?_) (fun h=>?_)|(refine gbT rfl (fun h=>?_) (fun h=>?_)<;>(try subst h))|(refine gbF rfl (fun h=>?_) (fun h=>?_)<;>(try subst h))|(refine cdB (fun h=>?_) (fun h=>?_)<;>(try subst h))|refine lOn Shp.eq (by (first|exact mem0|exact mem1|exact mem2|exact mem3|exact mem4|exact mem5)) rfl ?_|refine lAg Shp.eq (by (first|exact mem0|exact mem1|exact mem2|exact mem3|exact mem4|exact mem5)) rfl rfl ?_|refine newI (fun b hb hn=>?_)|refine stX 0 rfl Siz.eq rfl rfl (by simp[qC]) (by simp) ?_|refine stX 1 rfl Siz.eq rfl rfl (by simp[qC]) (by simp) ?_|refine stX 2 rfl Siz.eq rfl rfl (by simp[qC]) (by simp) ?_|refine stX 3 rfl Siz.eq rfl rfl (by simp[qC]) (by simp) ?_|refine stX 4 rfl Siz.eq rfl rfl (by simp[qC]) (by simp) ?_|refine stX 5 rfl Siz.eq rfl rfl (by simp[qC]) (by simp) ?_|refine stX 6 rfl Siz.eq rfl rfl (by simp[qC]) (by simp) ?_)<;>simp (disch:=omega) only[push_cast,qE,h0,h1,h5,h6]))
 rw[Vb]
 simp (disch:=omega) only[push_cast,qE,h0,h1,h5,h6]
 refine loopW (G:=Nat) (TwiceI w b5 b6 (Obj.cells #[.slice pa x.path.length pc,str x.f.nm,.bool x.f.nl,i64 x.f.k,i64 x.f.wd,i64 x.f.id,i64 x.f.ix,.slice fa x.f.sub.length fc,.slice aa x.ah.length ac,.bool x.ind] 165 (0,0)) (Obj.cells #[str x.f.nm,.bool x.f.nl,i64 x.f.k,i64 x.f.wd,i64 x.f.id,i64 x.f.ix,.slice fa x.f.sub.length fc] 26 (0,0)) x aa ac (.slice (some ⟨rb,0,none⟩) os.length cap) k) (fun i=>x.ah.length - i) 0 _ (fun w hw=>hw) (by kernel_rfl) ⟨rfl,rfl,rfl,by omega,by omega,h0,h1,h5,h6,rfl,rfl,rfl⟩ ?_
 clear h0 h1 h5 h6 h20 e
 rintro i wb e ds L ⟨rfl,rfl,rfl,hil,hno,h0,h1,h5,h6,h28,h29,h30⟩
 simp (disch:=omega) only[push_cast,qE,h0,h1,h5,h6,h28,h29,h30]
 rw[Vc]
 simp (disch:=omega) only[push_cast,qE,h0,h1,h5,h6,h28,h29,h30]
 refine cdD (fun hlt=>?_) (fun hge=>?_)
 ·obtain ⟨g,hg⟩:∃ g,x.ah[i]?=some g:=⟨_,qH (by omega)⟩
  obtain ⟨ab,aoff,rfl,hab⟩:∃ b off,aa=some ⟨b,off,none⟩∧b < lo:=by
   obtain ⟨f0,l0,hl0⟩:∃ f l',x.ah=f::l':=List.exists_cons_of_ne_nil (fun h=>by rw[h] at hg; simp at hg)
   rw[hl0] at hra
   exact hra.some_of
  obtain ⟨ga,gc,x1,x2,x3,x4,x5,x6⟩:=hra.get i hg
  simp (disch:=omega) only[push_cast,qE,h0,h1,h5,h6,h28,h29,h30]
  rw[Vb]
  simp (disch:=omega) only[push_cast,qE,h0,h1,h5,h6,h28,h29,h30]
  refine ldAggF sh_26 x2 rfl (out_of (fun p hp=>Nat.lt_of_lt_of_le (Nat.lt_of_lt_of_le x1 hlo) (hL _ _ p hp))) ?_
  simp (disch:=omega) only[push_cast,qE,h0,h1,h5,h6,h28,h29,h30,Fld.cells]
  refine newI (fun b8 hb8 hn8=>?_)
  have hL8:∀ x y z,∀ p∈[(b8,(z:Obj)),(b6,(x:Obj)),(b5,y)],wb.heap.size≤p.1:=fun x y z p hp=>by
   rcases List.mem_cons.1 hp with rfl|hp
   ·exact hb8
   ·exact hL x y p hp
  simp (disch:=omega) only[push_cast,qE,h0,h1,h5,h6,h28,h29,h30]
  repeat' (first|((first|refine gT rfl (fun h=>?_) (fun h=>?_)|refine gF rfl (fun h=>?_) (fun h=>?_)|refine cdD (fun h=>?_) (fun h=>?_)|(refine gbT rfl (fun h=>?_) (fun h=>?_)<;>(try subst h))|(refine gbF rfl (fun h=>?_) (fun h=>?_)<;>(try subst h))|(refine cdB (fun h=>?_) (fun h=>?_)<;>(try subst h))|refine lOn Shp.eq (by (first|exact mem0|exact mem1|exact mem2|exact mem3|exact mem4|exact mem5)) rfl ?_|refine lAg Shp.eq (by (first|exact mem0|exact mem1|exact mem2|exact mem3|exact mem4|exact mem5)) rfl rfl ?_|refine newI (fun b hb hn=>?_)|refine stX 0 rfl Siz.eq rfl rfl (by simp[qC]) (by simp) ?_|refine stX 1 rfl Siz.eq rfl rfl (by simp[qC]) (by simp) ?_|refine stX 2 rfl Siz.eq rfl rfl (by simp[qC]) (by simp) ?_|refine stX 3 rfl Siz.eq rfl rfl (by simp[qC]) (by simp) ?_|refine stX 4 rfl Siz.eq rfl rfl (by simp[qC]) (by simp) ?_|refine stX 5 rfl Siz.eq rfl rfl (by simp[qC]) (by simp) ?_|refine stX 6 rfl Siz.eq rfl rfl (by simp[qC]) (by simp) ?_)<;>simp (disch:=omega) only[push_cast,qE,h0,h1,h5,h6,h28,h29,h30]))
  rw[Vc]
  simp (disch:=omega) only[push_cast,qE,h0,h1,h5,h6,h28,h29,h30]
  refine cdD (fun hd=>?_) (fun hd=>?_)
  ·simp (disch:=omega) only[push_cast,qE,h0,h1,h5,h6,h28,h29,h30]
   have hany:x.ah.any (fun g=>decide (g.nm=x.f.nm))=true:=List.any_eq_true.2 ⟨g,List.mem_of_getElem? hg,un hd⟩
   exact finIs (hL8 _ _ _) (i64_eq (by unfold wrongN; rw[if_neg (by omega),if_neg (by omega),if_neg (fun h=>h c3'),if_pos hany]))
  ·simp (disch:=omega) only[push_cast,qE,h0,h1,h5,h6,h28,h29,h30]
   refine ⟨i+1,_,fun w hw=>hw.mid [] [_] (fun p hp=>by rw[List.mem_singleton.1 hp]; exact hb8),⟨rfl,rfl,rfl,by omega,fun j u hj hu=>?_,h0,h1,h5,h6,h28,h29,uu⟩,by omega⟩
   rcases Nat.lt_or_ge j i with h|h
   ·exact hno j u h hu
   ·obtain rfl:j=i:=by omega
    rw[hg] at hu; cases hu; exact hd
 have c4':¬ (x.ah.any (fun g=>decide (g.nm=x.f.nm))=true):=fun h=>by
  obtain ⟨g,hg,hd⟩:=List.any_eq_true.1 h
  obtain ⟨j,hj⟩:=List.mem_iff_getElem?.1 hg
  exact hno j g (by have:=(List.getElem?_eq_some_iff.1 hj).1; omega) hj (un hd)
 simp (disch:=omega) only[push_cast,qE,h0,h1,h5,h6,h28,h29,h30]
 repeat' (first|((first|refine gT rfl (fun h=>?_) (fun h=>?_)|refine gF rfl (fun h=>?_) (fun h=>?_)|refine cdD (fun h=>?_) (fun h=>?_)|(refine gbT rfl (fun h=>?_) (fun h=>?_)<;>(try subst h))|(refine gbF rfl (fun h=>?_) (fun h=>?_)<;>(try subst h))|(refine cdB (fun h=>?_) (fun h=>?_)<;>(try subst h))|refine lOn Shp.eq (by (first|exact mem0|exact mem1|exact mem2|exact mem3|exact mem4|exact mem5)) rfl ?_|refine lAg Shp.eq (by (first|exact mem0|exact mem1|exact mem2|exact mem3|exact mem4|exact mem5)) rfl rfl ?_|refine newI (fun b hb hn=>?_)|refine stX 0 rfl Siz.eq rfl rfl (by simp[qC]) (by simp) ?_|refine stX 1 rfl Siz.eq rfl rfl (by simp[qC]) (by simp) ?_|refine stX 2 rfl Siz.eq rfl rfl (by simp[qC]) (by simp) ?_|refine stX 3 rfl Siz.eq rfl rfl (by simp[qC]) (by simp) ?_|refine stX 4 rfl Siz.eq rfl rfl (by simp[qC]) (by simp) ?_|refine stX 5 rfl Siz.eq rfl rfl (by simp[qC]) (by simp) ?_|refine stX 6 rfl Siz.eq rfl rfl (by simp[qC]) (by simp) ?_)<;>simp (disch:=omega) only[push_cast,qE,h0,h1,h5,h6,h28,h29,h30]))
 refine callV en_148 (cIs (fun w' hw'=>shapedR_walk w' x.f.k x.f.wd x.f.id x.f.ix fa x.f.sub.length fc) ?_)
 simp (disch:=omega) only[push_cast,qE,h0,h1,h5,h6,h28,h29,h30]
 refine forget (fun e=>e 0=.slice (some ⟨rb,0,none⟩) os.length cap∧e 1=i64 k∧e 5=.pointer (some ⟨b5,0,none⟩)∧e 6=.pointer (some ⟨b6,0,none⟩)∧e 43=.bool (decide (¬ shapedF x.f))) ⟨h0,h1,h5,h6,rfl⟩ ?_
 clear h0 h1 h5 h6 h28 h29 h30 e
 rintro e ⟨h0,h1,h5,h6,h43⟩
 rw[Vc]
 simp (disch:=omega) only[push_cast,qE,h0,h1,h5,h6,h43]
 refine cdD (fun c5=>?_) (fun c5=>?_)
 ·simp (disch:=omega) only[push_cast,qE,h0,h1,h5,h6]
  exact finIs (hL _ _) (i64_eq (by unfold wrongN; rw[if_neg (by omega),if_neg (by omega),if_neg (fun h=>h c3'),if_neg c4',if_pos c5]))
 have c5':shapedF x.f:=Decidable.not_not.1 c5
 have hkne:(x.f.k=19∨x.f.k=20)→x.f.sub≠[]:=fun h e=>by
  have h1:=c5'.2.2.2.1
  rw[e] at h1
  unfold leastK at h1
  rw[if_pos (by omega)] at h1
  simp at h1
 simp (disch:=omega) only[push_cast,qE,h0,h1,h5,h6]
 repeat' (first|((first|refine gT rfl (fun h=>?_) (fun h=>?_)|refine gF rfl (fun h=>?_) (fun h=>?_)|refine cdD (fun h=>?_) (fun h=>?_)|(refine gbT rfl (fun h=>?_) (fun h=>?_)<;>(try subst h))|(refine gbF rfl (fun h=>?_) (fun h=>?_)<;>(try subst h))|(refine cdB (fun h=>?_) (fun h=>?_)<;>(try subst h))|refine lOn Shp.eq (by (first|exact mem0|exact mem1|exact mem2|exact mem3|exact mem4|exact mem5)) rfl ?_|refine lAg Shp.eq (by (first|exact mem0|exact mem1|exact mem2|exact mem3|exact mem4|exact mem5)) rfl rfl ?_|refine newI (fun b hb hn=>?_)|refine stX 0 rfl Siz.eq rfl rfl (by simp[qC]) (by simp) ?_|refine stX 1 rfl Siz.eq rfl rfl (by simp[qC]) (by simp) ?_|refine stX 2 rfl Siz.eq rfl rfl (by simp[qC]) (by simp) ?_|refine stX 3 rfl Siz.eq rfl rfl (by simp[qC]) (by simp) ?_|refine stX 4 rfl Siz.eq rfl rfl (by simp[qC]) (by simp) ?_|refine stX 5 rfl Siz.eq rfl rfl (by simp[qC]) (by simp) ?_|refine stX 6 rfl Siz.eq rfl rfl (by simp[qC]) (by simp) ?_)<;>simp (disch:=omega) only[push_cast,qE,h0,h1,h5,h6]))
 refine callV en_149 (cIs (fun w' hw'=>nullsR_walk w' x.f fa fc (fun h=>hkne (.inr h)) ((hrf.sy hlo hw' (fun p hp=>Nat.le_trans hlo (hL _ _ p hp))).weaken (Nat.le_trans hlo hw'.size))) ?_)
 simp (disch:=omega) only[push_cast,qE,h0,h1,h5,h6]
 refine forget (fun e=>e 0=.slice (some ⟨rb,0,none⟩) os.length cap∧e 1=i64 k∧e 5=.pointer (some ⟨b5,0,none⟩)∧e 6=.pointer (some ⟨b6,0,none⟩)∧e 46=.bool (!nullsB x.f)) ⟨h0,h1,h5,h6,rfl⟩ ?_
 clear h0 h1 h5 h6 h43 e
 rintro e ⟨h0,h1,h5,h6,h46⟩
 rw[Vc]
 simp (disch:=omega) only[push_cast,qE,h0,h1,h5,h6,h46]
 refine cdB (fun c6=>?_) (fun c6=>?_)
 ·simp (disch:=omega) only[push_cast,qE,h0,h1,h5,h6]
  exact finIs (hL _ _) (i64_eq (by unfold wrongN; rw[if_neg (by omega),if_neg (by omega),if_neg (fun h=>h c3'),if_neg c4',if_neg c5,if_pos (un c6)]))
 have c6':¬ nullsB x.f=false:=by simpa using c6
 simp (disch:=omega) only[push_cast,qE,h0,h1,h5,h6]
 have pre:∀ P Q:Prop,[Decidable P]→[Decidable Q]→(P↔x.ind=true∧(x.f.k=19∨x.f.k=20))→(Q↔x.f.k=19∧(firstNl x.f=true∨x.f.id∈idsOf (os.take k)))→wrongN x.path.length x.ah x.f x.ind k (idsOf (os.take k))=if P then 36 else if Q then 36 else 0:=fun P Q _ _ h1 h2=>by
  unfold wrongN
  rw[if_neg (by omega),if_neg (by omega),if_neg (fun h=>h c3'),if_neg c4',if_neg c5,if_neg c6']
  simp only[h1,h2]
 by_cases hk:x.f.k=19
 ·obtain ⟨g,l,hl⟩:∃ g l,x.f.sub=g::l:=List.exists_cons_of_ne_nil (hkne (.inl hk))
  have hlen:0 < x.f.sub.length:=by rw[hl]; simp
  rw[hl] at hrf
  obtain ⟨b',off,rfl,hb'⟩:=hrf.some_of
  obtain ⟨a',c',y1,y2,y3⟩:=hrf.get 0 rfl
  have hfn:firstNl x.f=g.nl:=by simp[firstNl,hl]
  have d19:decide (x.f.k=19)=true:=by simp[hk]
  repeat' (first|((first|refine gT rfl (fun h=>?_) (fun h=>?_)|refine gF rfl (fun h=>?_) (fun h=>?_)|refine cdD (fun h=>?_) (fun h=>?_)|(refine gbT rfl (fun h=>?_) (fun h=>?_)<;>(try subst h))|(refine gbF rfl (fun h=>?_) (fun h=>?_)<;>(try subst h))|(refine cdB (fun h=>?_) (fun h=>?_)<;>(try subst h))|refine lOn Shp.eq (by (first|exact mem0|exact mem1|exact mem2|exact mem3|exact mem4|exact mem5)) rfl ?_|refine lAg Shp.eq (by (first|exact mem0|exact mem1|exact mem2|exact mem3|exact mem4|exact mem5)) rfl rfl ?_|refine newI (fun b hb hn=>?_)|refine stX 0 rfl Siz.eq rfl rfl (by simp[qC]) (by simp) ?_|refine stX 1 rfl Siz.eq rfl rfl (by simp[qC]) (by simp) ?_|refine stX 2 rfl Siz.eq rfl rfl (by simp[qC]) (by simp) ?_|refine stX 3 rfl Siz.eq rfl rfl (by simp[qC]) (by simp) ?_|refine stX 4 rfl Siz.eq rfl rfl (by simp[qC]) (by simp) ?_|refine stX 5 rfl Siz.eq rfl rfl (by simp[qC]) (by simp) ?_|refine stX 6 rfl Siz.eq rfl rfl (by simp[qC]) (by simp) ?_)<;>simp (disch:=omega) only[push_cast,qE,h0,h1,h5,h6,d19])|(first|rw[Vc]|rw[Vb])<;>(try simp (disch:=omega) only[push_cast,qE,h0,h1,h5,h6,d19]))
  ·exact finIs (hL _ _) (i64_eq (by rw[pre _ _ Iff.rfl Iff.rfl,if_pos ⟨by assumption,.inl hk⟩]))
  refine ldF (by exact sh_4) (y2.sub 1 [.bool g.nl] rfl) (out_of fun p hp=>Nat.lt_of_lt_of_le (Nat.lt_of_lt_of_le y1 hlo) (hL _ _ p hp)) ?_
  simp (disch:=omega) only[push_cast,qE,h0,h1,h5,h6,d19]
  have hind:¬ (x.ind=true∧(x.f.k=19∨x.f.k=20)):=fun hh=>by rw[h] at hh; cases hh.1
  rw[Vc]
  simp (disch:=omega) only[push_cast,qE,h0,h1,h5,h6,d19]
  refine cdB (fun c7=>?_) (fun c7=>?_)
  ·simp (disch:=omega) only[push_cast,qE,h0,h1,h5,h6,d19]
   exact finIs (hL _ _) (i64_eq (by rw[pre _ _ Iff.rfl Iff.rfl,if_neg hind,if_pos ⟨hk,.inl (by rw[hfn]; exact c7)⟩]))
  simp (disch:=omega) only[push_cast,qE,h0,h1,h5,h6,d19]
  repeat' (first|((first|refine gT rfl (fun h=>?_) (fun h=>?_)|refine gF rfl (fun h=>?_) (fun h=>?_)|refine cdD (fun h=>?_) (fun h=>?_)|(refine gbT rfl (fun h=>?_) (fun h=>?_)<;>(try subst h))|(refine gbF rfl (fun h=>?_) (fun h=>?_)<;>(try subst h))|(refine cdB (fun h=>?_) (fun h=>?_)<;>(try subst h))|refine lOn Shp.eq (by (first|exact mem0|exact mem1|exact mem2|exact mem3|exact mem4|exact mem5)) rfl ?_|refine lAg Shp.eq (by (first|exact mem0|exact mem1|exact mem2|exact mem3|exact mem4|exact mem5)) rfl rfl ?_|refine newI (fun b hb hn=>?_)|refine stX 0 rfl Siz.eq rfl rfl (by simp[qC]) (by simp) ?_|refine stX 1 rfl Siz.eq rfl rfl (by simp[qC]) (by simp) ?_|refine stX 2 rfl Siz.eq rfl rfl (by simp[qC]) (by simp) ?_|refine stX 3 rfl Siz.eq rfl rfl (by simp[qC]) (by simp) ?_|refine stX 4 rfl Siz.eq rfl rfl (by simp[qC]) (by simp) ?_|refine stX 5 rfl Siz.eq rfl rfl (by simp[qC]) (by simp) ?_|refine stX 6 rfl Siz.eq rfl rfl (by simp[qC]) (by simp) ?_)<;>simp (disch:=omega) only[push_cast,qE,h0,h1,h5,h6,d19]))
  rw[Vb]
  simp (disch:=omega) only[push_cast,qE,h0,h1,h5,h6,d19]
  refine loopW (G:=Nat) (AgainI wb b5 b6 (Obj.cells #[.slice pa x.path.length pc,str x.f.nm,.bool x.f.nl,i64 x.f.k,i64 x.f.wd,i64 x.f.id,i64 x.f.ix,.slice (some ⟨b',off,none⟩) x.f.sub.length fc,.slice aa x.ah.length ac,.bool x.ind] 165 (0,0)) (Obj.cells #[str x.f.nm,.bool x.f.nl,i64 x.f.k,i64 x.f.wd,i64 x.f.id,i64 x.f.ix,.slice (some ⟨b',off,none⟩) x.f.sub.length fc] 26 (0,0)) x rb cap os k) (fun i=>k - i) 0 _ (fun w hw=>hw) (by kernel_rfl) ⟨rfl,rfl,rfl,by omega,by omega,h6,rfl,rfl,rfl⟩ ?_
  clear h0 h1 h5 h6 h46 e
  rintro i wb e ds L ⟨rfl,rfl,rfl,hil,hno,h6,h73,h74,h75⟩
  simp (disch:=omega) only[push_cast,qE,h6,h73,h74,h75]
  rw[Vc]
  simp (disch:=omega) only[push_cast,qE,h6,h73,h74,h75]
  refine cdD (fun hlt=>?_) (fun hge=>?_)
  ·obtain ⟨y,hy⟩:∃ y,os[i]?=some y:=⟨_,qH (by omega)⟩
   obtain ⟨ycs,yat,ypa,yfa,yaa,ypc,yfc,yac,rfl,_⟩:=hnodes i y hy
   simp (disch:=omega) only[push_cast,qE,h6,h73,h74,h75]
   rw[Vb]
   simp (disch:=omega) only[push_cast,qE,h6,h73,h74,h75]
   refine ldAggF sh_165 (un yat) rfl (out_of (fun p hp=>Nat.lt_of_lt_of_le hblt (hL _ _ p hp))) ?_
   simp (disch:=omega) only[push_cast,qE,h6,h73,h74,h75]
   refine newI (fun b10 hb10 hn10=>?_)
   have hL10:∀ x y z,∀ p∈[(b10,(z:Obj)),(b6,(x:Obj)),(b5,y)],wb.heap.size≤p.1:=fun x y z p hp=>by
    rcases List.mem_cons.1 hp with rfl|hp
    ·exact hb10
    ·exact hL x y p hp
   simp (disch:=omega) only[push_cast,qE,h6,h73,h74,h75]
   have hnext:¬ (y.f.k=19∧y.f.id=x.f.id)→∀ (j:Nat) z,j < i+1→os[j]?=some z→¬ (z.f.k=19∧z.f.id=x.f.id):=fun hq j z hj hz=>by
    rcases Nat.lt_or_ge j i with h|h
    ·exact hno j z h hz
    ·obtain rfl:j=i:=by omega
     rw[hy] at hz; cases hz; exact hq
   by_cases hyk:y.f.k=19∧y.f.id=x.f.id
   ·have e19:decide (y.f.k=19)=true:=decide_eq_true hyk.1
    have eid:decide (y.f.id=x.f.id)=true:=decide_eq_true hyk.2
    repeat' (first|((first|refine gT rfl (fun h=>?_) (fun h=>?_)|refine gF rfl (fun h=>?_) (fun h=>?_)|refine cdD (fun h=>?_) (fun h=>?_)|(refine gbT rfl (fun h=>?_) (fun h=>?_)<;>(try subst h))|(refine gbF rfl (fun h=>?_) (fun h=>?_)<;>(try subst h))|(refine cdB (fun h=>?_) (fun h=>?_)<;>(try subst h))|refine lOn Shp.eq (by (first|exact mem0|exact mem1|exact mem2|exact mem3|exact mem4|exact mem5)) rfl ?_|refine lAg Shp.eq (by (first|exact mem0|exact mem1|exact mem2|exact mem3|exact mem4|exact mem5)) rfl rfl ?_|refine newI (fun b hb hn=>?_)|refine stX 0 rfl Siz.eq rfl rfl (by simp[qC]) (by simp) ?_|refine stX 1 rfl Siz.eq rfl rfl (by simp[qC]) (by simp) ?_|refine stX 2 rfl Siz.eq rfl rfl (by simp[qC]) (by simp) ?_|refine stX 3 rfl Siz.eq rfl rfl (by simp[qC]) (by simp) ?_|refine stX 4 rfl Siz.eq rfl rfl (by simp[qC]) (by simp) ?_|refine stX 5 rfl Siz.eq rfl rfl (by simp[qC]) (by simp) ?_|refine stX 6 rfl Siz.eq rfl rfl (by simp[qC]) (by simp) ?_)<;>simp (disch:=omega) only[push_cast,qE,h6,h73,h74,h75,e19,eid])|(first|rw[Vc]|rw[Vb])<;>(try simp (disch:=omega) only[push_cast,qE,h6,h73,h74,h75,e19,eid]))
    refine finIs (hL10 _ _ _) (i64_eq ?_)
    rw[pre _ _ Iff.rfl Iff.rfl,if_neg hind,if_pos ⟨hk,.inr (ids_mem.2 ⟨i,y,by omega,hy,hyk.1,hyk.2⟩)⟩]
   ·by_cases h19:y.f.k=19
    ·have e19:decide (y.f.k=19)=true:=decide_eq_true h19
     have eid:decide (y.f.id=x.f.id)=false:=decide_eq_false (fun h=>hyk ⟨h19,h⟩)
     repeat' (first|((first|refine gT rfl (fun h=>?_) (fun h=>?_)|refine gF rfl (fun h=>?_) (fun h=>?_)|refine cdD (fun h=>?_) (fun h=>?_)|(refine gbT rfl (fun h=>?_) (fun h=>?_)<;>(try subst h))|(refine gbF rfl (fun h=>?_) (fun h=>?_)<;>(try subst h))|(refine cdB (fun h=>?_) (fun h=>?_)<;>(try subst h))|refine lOn Shp.eq (by (first|exact mem0|exact mem1|exact mem2|exact mem3|exact mem4|exact mem5)) rfl ?_|refine lAg Shp.eq (by (first|exact mem0|exact mem1|exact mem2|exact mem3|exact mem4|exact mem5)) rfl rfl ?_|refine newI (fun b hb hn=>?_)|refine stX 0 rfl Siz.eq rfl rfl (by simp[qC]) (by simp) ?_|refine stX 1 rfl Siz.eq rfl rfl (by simp[qC]) (by simp) ?_|refine stX 2 rfl Siz.eq rfl rfl (by simp[qC]) (by simp) ?_|refine stX 3 rfl Siz.eq rfl rfl (by simp[qC]) (by simp) ?_|refine stX 4 rfl Siz.eq rfl rfl (by simp[qC]) (by simp) ?_|refine stX 5 rfl Siz.eq rfl rfl (by simp[qC]) (by simp) ?_|refine stX 6 rfl Siz.eq rfl rfl (by simp[qC]) (by simp) ?_)<;>simp (disch:=omega) only[push_cast,qE,h6,h73,h74,h75,e19,eid])|(first|rw[Vc]|rw[Vb])<;>(try simp (disch:=omega) only[push_cast,qE,h6,h73,h74,h75,e19,eid]))
     exact ⟨i+1,_,fun w hw=>hw.mid [] [_] (fun p hp=>by rw[List.mem_singleton.1 hp]; exact hb10),⟨rfl,rfl,rfl,by omega,hnext hyk,h6,h73,h74,uu⟩,by omega⟩
    ·have e19:decide (y.f.k=19)=false:=decide_eq_false h19
     repeat' (first|((first|refine gT rfl (fun h=>?_) (fun h=>?_)|refine gF rfl (fun h=>?_) (fun h=>?_)|refine cdD (fun h=>?_) (fun h=>?_)|(refine gbT rfl (fun h=>?_) (fun h=>?_)<;>(try subst h))|(refine gbF rfl (fun h=>?_) (fun h=>?_)<;>(try subst h))|(refine cdB (fun h=>?_) (fun h=>?_)<;>(try subst h))|refine lOn Shp.eq (by (first|exact mem0|exact mem1|exact mem2|exact mem3|exact mem4|exact mem5)) rfl ?_|refine lAg Shp.eq (by (first|exact mem0|exact mem1|exact mem2|exact mem3|exact mem4|exact mem5)) rfl rfl ?_|refine newI (fun b hb hn=>?_)|refine stX 0 rfl Siz.eq rfl rfl (by simp[qC]) (by simp) ?_|refine stX 1 rfl Siz.eq rfl rfl (by simp[qC]) (by simp) ?_|refine stX 2 rfl Siz.eq rfl rfl (by simp[qC]) (by simp) ?_|refine stX 3 rfl Siz.eq rfl rfl (by simp[qC]) (by simp) ?_|refine stX 4 rfl Siz.eq rfl rfl (by simp[qC]) (by simp) ?_|refine stX 5 rfl Siz.eq rfl rfl (by simp[qC]) (by simp) ?_|refine stX 6 rfl Siz.eq rfl rfl (by simp[qC]) (by simp) ?_)<;>simp (disch:=omega) only[push_cast,qE,h6,h73,h74,h75,e19])|(first|rw[Vc]|rw[Vb])<;>(try simp (disch:=omega) only[push_cast,qE,h6,h73,h74,h75,e19]))
     exact ⟨i+1,_,fun w hw=>hw.mid [] [_] (fun p hp=>by rw[List.mem_singleton.1 hp]; exact hb10),⟨rfl,rfl,rfl,by omega,hnext hyk,h6,h73,h74,uu⟩,by omega⟩
  ·have hnone:¬ (x.f.k=19∧(firstNl x.f=true∨x.f.id∈idsOf (os.take k))):=fun h=>by
    rcases h.2 with h2|h2
    ·rw[hfn,c7] at h2; cases h2
    ·obtain ⟨j,y,h3,h4,h5,h6⟩:=ids_mem.1 h2
     exact hno j y (by omega) h4 ⟨h5,h6⟩
   simp (disch:=omega) only[push_cast,qE,h6,h73,h74,h75]
   repeat' (first|((first|refine gT rfl (fun h=>?_) (fun h=>?_)|refine gF rfl (fun h=>?_) (fun h=>?_)|refine cdD (fun h=>?_) (fun h=>?_)|(refine gbT rfl (fun h=>?_) (fun h=>?_)<;>(try subst h))|(refine gbF rfl (fun h=>?_) (fun h=>?_)<;>(try subst h))|(refine cdB (fun h=>?_) (fun h=>?_)<;>(try subst h))|refine lOn Shp.eq (by (first|exact mem0|exact mem1|exact mem2|exact mem3|exact mem4|exact mem5)) rfl ?_|refine lAg Shp.eq (by (first|exact mem0|exact mem1|exact mem2|exact mem3|exact mem4|exact mem5)) rfl rfl ?_|refine newI (fun b hb hn=>?_)|refine stX 0 rfl Siz.eq rfl rfl (by simp[qC]) (by simp) ?_|refine stX 1 rfl Siz.eq rfl rfl (by simp[qC]) (by simp) ?_|refine stX 2 rfl Siz.eq rfl rfl (by simp[qC]) (by simp) ?_|refine stX 3 rfl Siz.eq rfl rfl (by simp[qC]) (by simp) ?_|refine stX 4 rfl Siz.eq rfl rfl (by simp[qC]) (by simp) ?_|refine stX 5 rfl Siz.eq rfl rfl (by simp[qC]) (by simp) ?_|refine stX 6 rfl Siz.eq rfl rfl (by simp[qC]) (by simp) ?_)<;>simp (disch:=omega) only[push_cast,qE,h6,h73,h74,h75])|(first|rw[Vc]|rw[Vb])<;>(try simp (disch:=omega) only[push_cast,qE,h6,h73,h74,h75]))
   exact finIs (hL _ _) (i64_eq (by rw[pre _ _ Iff.rfl Iff.rfl,if_neg hind,if_neg hnone]))
 ·have d19:decide (x.f.k=19)=false:=by simp[hk]
  have hnone:¬ (x.f.k=19∧(firstNl x.f=true∨x.f.id∈idsOf (os.take k))):=fun h=>hk h.1
  repeat' (first|((first|refine gT rfl (fun h=>?_) (fun h=>?_)|refine gF rfl (fun h=>?_) (fun h=>?_)|refine cdD (fun h=>?_) (fun h=>?_)|(refine gbT rfl (fun h=>?_) (fun h=>?_)<;>(try subst h))|(refine gbF rfl (fun h=>?_) (fun h=>?_)<;>(try subst h))|(refine cdB (fun h=>?_) (fun h=>?_)<;>(try subst h))|refine lOn Shp.eq (by (first|exact mem0|exact mem1|exact mem2|exact mem3|exact mem4|exact mem5)) rfl ?_|refine lAg Shp.eq (by (first|exact mem0|exact mem1|exact mem2|exact mem3|exact mem4|exact mem5)) rfl rfl ?_|refine newI (fun b hb hn=>?_)|refine stX 0 rfl Siz.eq rfl rfl (by simp[qC]) (by simp) ?_|refine stX 1 rfl Siz.eq rfl rfl (by simp[qC]) (by simp) ?_|refine stX 2 rfl Siz.eq rfl rfl (by simp[qC]) (by simp) ?_|refine stX 3 rfl Siz.eq rfl rfl (by simp[qC]) (by simp) ?_|refine stX 4 rfl Siz.eq rfl rfl (by simp[qC]) (by simp) ?_|refine stX 5 rfl Siz.eq rfl rfl (by simp[qC]) (by simp) ?_|refine stX 6 rfl Siz.eq rfl rfl (by simp[qC]) (by simp) ?_)<;>simp (disch:=omega) only[push_cast,qE,h0,h1,h5,h6,d19])|(first|rw[Vc]|rw[Vb])<;>(try simp (disch:=omega) only[push_cast,qE,h0,h1,h5,h6,d19]))
  ·refine finIs (hL _ _) (i64_eq ?_)
   rw[pre _ _ Iff.rfl Iff.rfl,if_pos ⟨by assumption,.inr (by assumption)⟩]
  ·refine finIs (hL _ _) (i64_eq ?_)
   rw[pre _ _ Iff.rfl Iff.rfl,if_neg (fun hh=>by rw[h] at hh; cases hh.1),if_neg hnone]
  ·refine finIs (hL _ _) (i64_eq ?_)
   rw[pre _ _ Iff.rfl Iff.rfl,if_neg (fun h=>by rcases h.2 with h|h<;>contradiction),if_neg hnone]
end Go.Proofs.YtilejcofleeeiaaGreatDoor
