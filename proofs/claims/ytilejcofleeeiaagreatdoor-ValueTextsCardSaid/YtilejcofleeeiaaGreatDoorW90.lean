/- YtilejcofleeeiaaGreatDoor: walks, part 89: are two values the same. -/
import Derived.Test.YtilejcofleeeiaaGreatDoorW253
namespace Go.Proofs.YtilejcofleeeiaaGreatDoor
open Go Go.K
open Nat renaming reduceEqDiff → qE
open List renaming length_cons → qN, length_append → qA, mem_nil_iff → qI, length_nil → qO, getElem?_eq_getElem → qH
set_option maxRecDepth 100000
set_option linter.unusedVariables false
set_option linter.unusedSimpArgs false
set_option maxHeartbeats 4000000
def ShOK (d:Nat):Prop:=∀ (w:World) (lo:Nat) (ind:Bool) (f:Fld) (v:Vl) (a va:Option Addr) (c vc:Nat),lo≤w.heap.size→okT d ind f→fitD d f v=true→rngD d v→FlAt w lo f a c→VAt w lo v va vc→wV v≤16777216 →
 Calls Tryz.prog 19 #[.agg (f.cells a c).toArray,.agg (v.cells va vc).toArray,i64 65536] w (Rets w (Is (str (shownR d f v))))
def SlOK (d:Nat):Prop:=∀ (w:World) (lo:Nat) (ind:Bool) (f:Fld) (v:Vl) (a va:Option Addr) (c vc:Nat),lo≤w.heap.size→okT (d+1) ind f→(f.k=15∨f.k=16∨f.k=17)→v.nu=false→fitD (d+1) f v=true→rngD (d+1) v→FlAt w lo f a c→VAt w lo v va vc→wV v≤16777216 →
 Calls Tryz.prog 42 #[.agg (f.tcells a c).toArray,.agg (v.cells va vc).toArray,i64 65536] w (Rets w (Is (str (listR f (shownR d) v.ls))))
theorem shown_step (d:Nat) (hP:ShOK d) (hS:SlOK d):ShOK (d+1):=by
 intro w lo ind f v a va c vc hlo hok hfit hr hA hV hwt
 have hwp:=wV_pos v
 have hsh:=shownR_len (d+1) f v ind hok hfit hr
 refine enterT (args:=[.agg (f.cells a c).toArray,.agg (v.cells va vc).toArray,i64 65536]) Tryz.func19 rfl Tryz.ntmps19 (congrArg Array.toList Tryz.results19) (by kernel_rfl) (by simp) (Sy.refl w) ?_
 simp (disch:=omega) only[push_cast,qE,Fld.cells,Vl.cells]
 refine newI (fun b3 hb3 hn3=>?_)
 simp (disch:=omega) only[push_cast,qE,Fld.cells,Vl.cells]
 refine newI (fun b4 hb4 hn4=>?_)
 simp (disch:=omega) only[push_cast,qE,Fld.cells,Vl.cells]
 refine lAg Shp.eq mem1 rfl rfl ?_
 refine sp ?_
 refine newI (fun b7 hb7 hn7=>?_)
 refine sp ?_
 refine sXa 0 rfl Siz.eq rfl rfl ?_
 refine sp ?_
 refine lOn Shp.eq mem1 rfl ?_
 refine sp ?_
 have hL:∀ p∈[(qb1 b7 f a c),(qb3 b4 v.nu v.num v.tx va v.ls.length vc),(qb0 b3 f a c)],w.heap.size≤p.1:=fun p hp=>by
  simp only[List.mem_cons,qI,or_false] at hp
  rcases hp with rfl|rfl|rfl
  ·exact hb7
  ·exact hb4
  ·exact hb3
 rw[Vc]
 refine sp ?_
 refine cdB (fun hnu=>?_) (fun hnu=>?_)
 ·refine sp ?_
  exact finIs hL (by rw[shownR,if_pos hnu]; rfl)
 refine sp ?_
 refine lOn Shp.eq mem0 rfl ?_
 refine sp ?_
 refine forget (fun e=>e 2=i64 65536∧e 4=.pointer (some ⟨b4,0,none⟩)∧e 7=.pointer (some ⟨b7,0,none⟩)∧e 14=i64 f.k) ⟨rfl,rfl,rfl,rfl⟩ ?_
 rintro e ⟨h2,h4,h7,h14⟩
 have hnl:¬ v.nu=true:=by rw[hnu]; decide
 have hwe:=wV_eq v
 rw[Vb]
 by_cases hkA:f.k=19∨f.k=20
 ·obtain ⟨g,hg⟩:∃ g,f.sub[0]?=some g:=by
   have h1:=hok.1.1.2.2.2.1
   exact ⟨_,qH (by rcases hkA with hk|hk<;>rw[hk] at h1<;>simp[leastK] at h1<;>omega)⟩
  have hx:shownR (d+1) f v=shownR d g v:=by rw[shownR,if_neg hnl,if_pos hkA,hg]
  have hpos:0 < f.sub.length:=(List.getElem?_eq_some_iff.1 hg).1
  obtain ⟨gb,goff,ga,gc,rfl,g1,g2,g3⟩:=hA.get hg
  rw[Nat.zero_mul,Nat.add_zero] at g2
  rcases hkA with hk|hk<;>rw[hk] at h14<;>simp (disch:=omega) only[push_cast,qE,h14]
  all_goals repeat ((try rw[Vc]); (try simp (disch:=omega) only[push_cast,qE,h14]); (refine cdD (fun h9=>?_) (fun h9=>?_)<;>first|(exfalso; first|omega|exact h9 trivial)|((try clear h9); try simp (disch:=omega) only[push_cast,qE,h14])))
  all_goals
   refine drawQT (by kernel_rfl) (by kernel_rfl) mixed (by kernel_rfl) ?_
   simp (disch:=omega) only[push_cast,qE,h2,h4,h7]
   refine lOn Shp.eq mem0 rfl ?_
   simp (disch:=omega) only[push_cast,qE,h2,h4,h7]
   refine ldAggF Shp.eq g2 rfl (out_of (fun p hp=>Nat.lt_of_lt_of_le (Nat.lt_of_lt_of_le g1 hlo) (hL p hp))) ?_
   simp (disch:=omega) only[push_cast,qE,h2,h4,h7,Fld.cells]
   refine lAg Shp.eq mem1 rfl rfl ?_
   simp (disch:=omega) only[push_cast,qE,h2,h4,h7]
   refine qcallV en_19 (qcallX_is _ (fun w' hw'=>hP w' lo _ g v ga va gc vc (Nat.le_trans hlo hw'.size) (hok.2 g (List.mem_of_getElem? hg)) (fit_wrap hnu (by first|exact .inl hk|exact .inr hk) hg hfit) (rng_down d v hr) (g3.sy hlo hw' hL) (hV.sy hlo hw' hL) hwt) ?_)
   refine sp ?_
   exact finIs hL (by rw[hx])
 by_cases hk2:f.k=2
 ·have hx:shownR (d+1) f v=boolT (decide (v.num=1)):=by rw[shownR,if_neg hnl,if_neg hkA,if_neg (by omega),if_neg (by omega),if_neg (by omega),if_neg (by omega),numT,if_pos hk2]
  rw[hk2] at h14
  simp (disch:=omega) only[push_cast,qE,h14]
  repeat ((try rw[Vc]); (try simp (disch:=omega) only[push_cast,qE,h14]); (refine cdD (fun h9=>?_) (fun h9=>?_)<;>first|(exfalso; first|omega|exact h9 trivial)|((try clear h9); try simp (disch:=omega) only[push_cast,qE,h14])))
  simp (disch:=omega) only[push_cast,qE,h4]
  refine lOn Shp.eq mem1 rfl ?_
  simp (disch:=omega) only[push_cast,qE,h4]
  rw[Vc]
  simp (disch:=omega) only[push_cast,qE,h4]
  refine cdD (fun h=>?_) (fun h=>?_)
  ·refine sp ?_
   exact finIs hL (by rw[hx,decide_eq_true h]; rfl)
  ·refine sp ?_
   exact finIs hL (by rw[hx,decide_eq_false h]; rfl)
 have ew:IntKind.u64.wrap v.num=(unsP v.num:Int):=wrapU _ hV.hn.1 hV.hn.2
 by_cases hk10:f.k=10
 ·have hx:shownR (d+1) f v=Lib.decDigits (unsP v.num):=by rw[shownR,if_neg hnl,if_neg hkA,if_neg (by omega),if_neg (by omega),if_neg (by omega),if_neg (by omega),numT,if_neg hk2,if_pos hk10]
  rw[hk10] at h14
  simp (disch:=omega) only[push_cast,qE,h14]
  repeat ((try rw[Vc]); (try simp (disch:=omega) only[push_cast,qE,h14]); (refine cdD (fun h9=>?_) (fun h9=>?_)<;>first|(exfalso; first|omega|exact h9 trivial)|((try clear h9); try simp (disch:=omega) only[push_cast,qE,h14])))
  simp (disch:=omega) only[push_cast,qE,h4]
  refine lOn Shp.eq mem1 rfl ?_
  simp (disch:=omega) only[push_cast,qE,h4,ew]
  refine callV en_38 (cIs (fun w' hw'=>tens_walk w' _ (by unfold unsP; omega)) ?_)
  refine sp ?_
  exact finIs hL (by rw[hx])
 by_cases hk11:f.k=11
 ·have hx:shownR (d+1) f v=floatT v.num:=by rw[shownR,if_neg hnl,if_neg hkA,if_neg (by omega),if_neg (by omega),if_neg (by omega),if_neg (by omega),numT,if_neg hk2,if_neg hk10,if_pos hk11]
  rw[hk11] at h14
  simp (disch:=omega) only[push_cast,qE,h14]
  repeat ((try rw[Vc]); (try simp (disch:=omega) only[push_cast,qE,h14]); (refine cdD (fun h9=>?_) (fun h9=>?_)<;>first|(exfalso; first|omega|exact h9 trivial)|((try clear h9); try simp (disch:=omega) only[push_cast,qE,h14])))
  simp (disch:=omega) only[push_cast,qE,h4]
  refine lOn Shp.eq mem1 rfl ?_
  simp (disch:=omega) only[push_cast,qE,h4]
  refine callV en_39 (cIs (fun w' hw'=>floatR_walk w' _ hV.hn.1 hV.hn.2) ?_)
  refine sp ?_
  exact finIs hL (by rw[hx])
 by_cases hk12:f.k=12
 ·have hx:shownR (d+1) f v=if 65536 < v.tx.length then v.tx else textT v.tx:=by rw[shownR,if_neg hnl,if_neg hkA,if_pos hk12]
  rw[hk12] at h14
  simp (disch:=omega) only[push_cast,qE,h14]
  repeat ((try rw[Vc]); (try simp (disch:=omega) only[push_cast,qE,h14]); (refine cdD (fun h9=>?_) (fun h9=>?_)<;>first|(exfalso; first|omega|exact h9 trivial)|((try clear h9); try simp (disch:=omega) only[push_cast,qE,h14])))
  simp (disch:=omega) only[push_cast,qE,h2,h4]
  refine lOn Shp.eq mem1 rfl ?_
  simp (disch:=omega) only[push_cast,qE,h2,h4]
  rw[Vc]
  simp (disch:=omega) only[push_cast,qE,h2,h4]
  refine cdD (fun h=>?_) (fun h=>?_)
  ·simp (disch:=omega) only[push_cast,qE,h4]
   refine lOn Shp.eq mem1 rfl ?_
   refine sp ?_
   exact finIs hL (by rw[hx,if_pos (by omega)])
  ·simp (disch:=omega) only[push_cast,qE,h4]
   refine lOn Shp.eq mem1 rfl ?_
   refine sp ?_
   refine callV en_40 (cIs (fun w' hw'=>quotedR_walk w' _ (by omega)) ?_)
   refine sp ?_
   exact finIs hL (by rw[hx,if_neg (by omega)])
 by_cases hk13:f.k=13∨f.k=14
 ·have hx:shownR (d+1) f v=if 65536 < v.tx.length then v.tx else bytesT v.tx:=by rw[shownR,if_neg hnl,if_neg hkA,if_neg hk12,if_pos hk13]
  rcases hk13 with hk|hk<;>rw[hk] at h14<;>simp (disch:=omega) only[push_cast,qE,h14]
  all_goals repeat ((try rw[Vc]); (try simp (disch:=omega) only[push_cast,qE,h14]); (refine cdD (fun h9=>?_) (fun h9=>?_)<;>first|(exfalso; first|omega|exact h9 trivial)|((try clear h9); try simp (disch:=omega) only[push_cast,qE,h14])))
  all_goals simp (disch:=omega) only[push_cast,qE,h2,h4]
  all_goals
   refine lOn Shp.eq mem1 rfl ?_
   simp (disch:=omega) only[push_cast,qE,h2,h4]
   rw[Vc]
   simp (disch:=omega) only[push_cast,qE,h2,h4]
   refine cdD (fun h=>?_) (fun h=>?_)
   ·simp (disch:=omega) only[push_cast,qE,h4]
    refine lOn Shp.eq mem1 rfl ?_
    refine sp ?_
    exact finIs hL (by rw[hx,if_pos (by omega)])
   ·simp (disch:=omega) only[push_cast,qE,h4]
    refine lOn Shp.eq mem1 rfl ?_
    refine sp ?_
    refine callV en_41 (cIs (fun w' hw'=>rawR_walk w' _ (by omega)) ?_)
    refine sp ?_
    exact finIs hL (by rw[hx,if_neg (by omega)])
 by_cases hk18:f.k=18
 ·obtain ⟨g,z,hg,hz,hl1,z0,zlt,hgz⟩:=fit_union hnu hk18 hfit
  have hgm:=List.mem_of_getElem? hg
  have hzm:=List.mem_of_getElem? hz
  have hx:shownR (d+1) f v=g.nm++40::(shownR d g z++[41]):=by rw[shownR,if_neg hnl,if_neg hkA,if_neg hk12,if_neg (by omega),if_pos hk18,hg,hz]
  rw[hx] at hsh
  simp only[qA,qN,qO] at hsh
  have hwz:=wL_mem hzm
  obtain ⟨gb,goff,ga,gc,rfl,g1,g2,g3⟩:=hA.get hg
  obtain ⟨zb,zoff,za,zc,rfl,z1,z2,z3⟩:=hV.get hz
  rw[Nat.zero_mul,Nat.add_zero] at z2
  rw[hk18] at h14
  simp (disch:=omega) only[push_cast,qE,h14]
  repeat ((try rw[Vc]); (try simp (disch:=omega) only[push_cast,qE,h14]); (refine cdD (fun h9=>?_) (fun h9=>?_)<;>first|(exfalso; first|omega|exact h9 trivial)|((try clear h9); try simp (disch:=omega) only[push_cast,qE,h14])))
  simp (disch:=omega) only[push_cast,qE,h4,h7]
  refine lOn Shp.eq mem0 rfl ?_
  simp (disch:=omega) only[push_cast,qE,h4,h7]
  refine lOn Shp.eq mem1 rfl ?_
  simp (disch:=omega) only[push_cast,qE,h4,h7]
  refine ldAggF Shp.eq g2 rfl (out_of (fun p hp=>Nat.lt_of_lt_of_le (Nat.lt_of_lt_of_le g1 hlo) (hL p hp))) ?_
  simp (disch:=omega) only[push_cast,qE,Fld.cells]
  refine newI (fun b8 hb8 hn8=>?_)
  simp (disch:=omega) only[push_cast,qE,Fld.cells]
  refine sXa 0 rfl Siz.eq rfl rfl ?_
  have hL8:∀ x:Obj,∀ p∈(b8,x)::[(b7,Obj.cells #[i64 f.k,i64 f.wd,i64 f.id,i64 f.ix,.slice (some ⟨gb,goff,none⟩) f.sub.length c] 24 (0,0)),(b4,Obj.cells #[.bool v.nu,i64 v.num,str v.tx,.slice (some ⟨zb,zoff,none⟩) v.ls.length vc] 29 (0,0)),(b3,Obj.cells #[str f.nm,.bool f.nl,i64 f.k,i64 f.wd,i64 f.id,i64 f.ix,.slice (some ⟨gb,goff,none⟩) f.sub.length c] 26 (0,0))],w.heap.size≤p.1:=fun x p hp=>by
   rcases List.mem_cons.1 hp with rfl|hp
   ·exact hb8
   ·exact hL p hp
  simp (disch:=omega) only[push_cast,qE,h2,h4]
  refine drawQT (by kernel_rfl) (by kernel_rfl) mixed (by kernel_rfl) ?_
  simp (disch:=omega) only[push_cast,qE,h2,h4]
  refine lOn Shp.eq mem0 rfl ?_
  simp (disch:=omega) only[push_cast,qE,h2,h4]
  refine addS (m:=[40]) (by simp only[qN,qO]; omega) ?_
  simp (disch:=omega) only[push_cast,qE,h2,h4]
  refine lAg Shp.eq mem0 rfl rfl ?_
  simp (disch:=omega) only[push_cast,qE,h2,h4]
  refine lOn Shp.eq mem2 rfl ?_
  simp (disch:=omega) only[push_cast,qE,h2,h4]
  refine ldAggF Shp.eq z2 rfl (out_of (fun p hp=>Nat.lt_of_lt_of_le (Nat.lt_of_lt_of_le z1 hlo) (hL8 _ p hp))) ?_
  simp (disch:=omega) only[push_cast,qE,h2,h4,Vl.cells]
  refine qcallV en_19 (qcallX_is _ (fun w' hw'=>hP w' lo _ g z ga za gc zc (Nat.le_trans hlo hw'.size) (hok.2 g hgm) hgz (hr.2 z hzm) (g3.sy hlo hw' (hL8 _)) (z3.sy hlo hw' (hL8 _)) (by omega)) ?_)
  refine sp ?_
  refine addS (by simp only[qA,qN,qO]; omega) ?_
  refine sp ?_
  refine addS (m:=[41]) (by simp only[qA,qN,qO]; omega) ?_
  refine sp ?_
  exact finIs (hL8 _) (by rw[hx]; simp)
 by_cases hk15:f.k=15∨f.k=16∨f.k=17
 ·have hx:shownR (d+1) f v=listR f (shownR d) v.ls:=by rw[shownR,if_neg hnl,if_neg hkA,if_neg hk12,if_neg hk13,if_neg hk18,if_pos hk15]
  have hk15':=hk15
  rcases hk15 with hk|hk|hk<;>rw[hk] at h14<;>simp (disch:=omega) only[push_cast,qE,h14]
  all_goals repeat ((try rw[Vc]); (try simp (disch:=omega) only[push_cast,qE,h14]); (refine cdD (fun h9=>?_) (fun h9=>?_)<;>first|(exfalso; first|omega|exact h9 trivial)|((try clear h9); try simp (disch:=omega) only[push_cast,qE,h14])))
  all_goals
   simp (disch:=omega) only[push_cast,qE,h2,h4,h7]
   refine lAg Shp.eq mem0 rfl rfl ?_
   simp (disch:=omega) only[push_cast,qE,h2,h4,h7]
   refine lAg Shp.eq mem1 rfl rfl ?_
   simp (disch:=omega) only[push_cast,qE,h2,h4,h7]
   refine callV en_42 (cIs (fun w' hw'=>hS w' lo ind f v a va c vc (Nat.le_trans hlo hw'.size) hok hk15' hnu hfit hr (hA.sy hlo hw' hL) (hV.sy hlo hw' hL) hwt) ?_)
   refine sp ?_
   exact finIs hL (by rw[hx])
 have hx:shownR (d+1) f v=Lib.itoa v.num:=by rw[shownR,if_neg hnl,if_neg hkA,if_neg hk12,if_neg hk13,if_neg hk18,if_neg hk15,numT,if_neg hk2,if_neg hk10,if_neg hk11]
 simp (disch:=omega) only[push_cast,qE,h14]
 repeat ((try rw[Vc]); (try simp (disch:=omega) only[push_cast,qE,h14]); (refine cdD (fun h9=>?_) (fun h9=>?_)<;>first|(exfalso; first|omega|exact h9 trivial)|((try clear h9); try simp (disch:=omega) only[push_cast,qE,h14])))
 simp (disch:=omega) only[push_cast,qE,h4]
 refine lOn Shp.eq mem1 rfl ?_
 simp (disch:=omega) only[push_cast,qE,h4]
 refine callV en_43 (cIs (fun w' hw'=>wholeR_walk w' _ hV.hn.1 hV.hn.2) ?_)
 refine sp ?_
 exact finIs hL (by rw[hx])
set_option maxHeartbeats 2000000
mutual
def sameV:Vl→Vl→Bool
 | .mk n1 z1 t1 l1,.mk n2 z2 t2 l2=>(n1 == n2) && (decide (z1=z2) && (decide (t1=t2) && sameL l1 l2))
def sameL:List Vl→List Vl→Bool
 | [],[]=>true
 | x::xs,y::ys=>sameV x y && sameL xs ys
 | [],_::_=>false
 | _::_,[]=>false
end
theorem sameV_eq (a b:Vl):sameV a b=((a.nu == b.nu) && (decide (a.num=b.num) && (decide (a.tx=b.tx) && sameL a.ls b.ls))):=by
 cases a; cases b; rw[sameV]; rfl
mutual
theorem sameV_iff:∀ (a b:Vl),sameV a b=true↔a=b
 | .mk n1 z1 t1 l1,.mk n2 z2 t2 l2=>by
  rw[sameV,Vl.mk.injEq,← sameL_iff l1 l2]
  simp
theorem sameL_iff:∀ (a b:List Vl),sameL a b=true↔a=b
 | [],[]=>by simp[sameL]
 | x::xs,y::ys=>by rw[sameL,List.cons.injEq,← sameL_iff xs ys,← sameV_iff x y]; simp
 | [],_::_=>by simp[sameL]
 | _::_,[]=>by simp[sameL]
end
theorem sameL_len {a b:List Vl} (h:a.length≠b.length):sameL a b=false:=by
 rcases hb:sameL a b with _|_
 ·rfl
 ·rw[sameL_iff] at hb; exact absurd (congrArg List.length hb) h
theorem sameL_step {i:Nat} {la lb:List Vl} {x y:Vl} (hx:la[i]?=some x) (hy:lb[i]?=some y):sameL (la.drop i) (lb.drop i)=(sameV x y && sameL (la.drop (i+1)) (lb.drop (i+1))):=by
 obtain ⟨h1,rfl⟩:=List.getElem?_eq_some_iff.1 hx
 obtain ⟨h2,rfl⟩:=List.getElem?_eq_some_iff.1 hy
 rw[List.drop_eq_getElem_cons h1,List.drop_eq_getElem_cons h2,sameL]
theorem Vl.size_get {v x:Vl} {i:Nat} (h:v.ls[i]?=some x):SizeOf.sizeOf x < SizeOf.sizeOf v:=by
 have h1:=List.sizeOf_lt_of_mem (List.mem_of_getElem? h)
 cases v
 simp only[Vl.ls,Vl.mk.sizeOf_spec] at h1 ⊢
 omega
structure SaI (w0:World) (b2 b3:Nat) (x y:Vl) (xa ya:Option Addr) (xc yc:Nat) (i:Nat) (wb:World) (e:Env) (ds:List Deferred) (L:Own):Prop where
 hw:wb=w0
 hds:ds=[]
 o:L=[(qb3 b3 y.nu y.num y.tx ya y.ls.length yc),(qb3 b2 x.nu x.num x.tx xa x.ls.length xc)]
 hi:i≤x.ls.length
 hr:sameL (x.ls.drop i) (y.ls.drop i)=sameL x.ls y.ls
 h2:e 2=.pointer (some ⟨b2,0,none⟩)
 h3:e 3=.pointer (some ⟨b3,0,none⟩)
 h36:e 36=i64 x.ls.length
 h37:e 37=i64 i
theorem same_all:∀ (n:Nat) (w:World) (lo:Nat) (x y:Vl) (xa ya:Option Addr) (xc yc:Nat),SizeOf.sizeOf x≤n→lo≤w.heap.size→VAt w lo x xa xc→VAt w lo y ya yc →
 Calls Tryz.prog 17 #[.agg (x.cells xa xc).toArray,.agg (y.cells ya yc).toArray] w (Rets w (Is (.bool (sameV x y)))):=by
 intro n
 induction n with
 | zero=>intro w lo x y xa ya xc yc hn; cases x; simp at hn
 | succ n ih =>
 intro w lo x y xa ya xc yc hn hlo hX hY
 have hbnd:x.ls.length≤9223372036854775807:=Nat.le_trans hX.hc hX.hc2
 have hbndy:y.ls.length≤9223372036854775807:=Nat.le_trans hY.hc hY.hc2
 refine enterT (args:=[.agg (x.cells xa xc).toArray,.agg (y.cells ya yc).toArray]) Tryz.func17 rfl Tryz.ntmps17 (congrArg Array.toList Tryz.results17) (by kernel_rfl) (by simp) (Sy.refl w) ?_
 simp (disch:=omega) only[push_cast,qE,Vl.cells]
 refine newI (fun b2 hb2 hn2=>?_)
 simp (disch:=omega) only[push_cast,qE,Vl.cells]
 refine newI (fun b3 hb3 hn3=>?_)
 simp (disch:=omega) only[push_cast,qE,Vl.cells]
 have hL:∀ x y:Obj,∀ p∈[(b3,x),(b2,y)],w.heap.size≤p.1:=fun x y p hp=>by
  simp only[List.mem_cons,qI,or_false] at hp
  rcases hp with rfl|rfl
  ·exact hb3
  ·exact hb2
 refine lOn Shp.eq mem1 rfl ?_
 refine sp ?_
 refine lOn Shp.eq mem0 rfl ?_
 refine sp ?_
 refine gbF rfl (fun hn1=>?_) (fun hn1=>?_)
 rotate_left
 ·refine sp ?_
  rw[Vc]
  refine sp ?_
  exact finIs (hL _ _) (congrArg Value.bool (by rw[sameV_eq,show (x.nu == y.nu)=false by simpa [bne] using hn1]; rfl))
 have hnu:(x.nu == y.nu)=true:=by simpa [bne] using hn1
 refine sp ?_
 refine lOn Shp.eq mem1 rfl ?_
 refine sp ?_
 refine lOn Shp.eq mem0 rfl ?_
 refine sp ?_
 refine gF rfl (fun hn2=>?_) (fun hn2=>?_)
 rotate_left
 ·refine sp ?_
  rw[Vc]
  refine sp ?_
  exact finIs (hL _ _) (congrArg Value.bool (by rw[sameV_eq,decide_eq_false hn2,hnu]; rfl))
 have hnm:x.num=y.num:=Decidable.not_not.1 hn2
 refine sp ?_
 refine lOn Shp.eq mem1 rfl ?_
 refine sp ?_
 refine lOn Shp.eq mem0 rfl ?_
 refine sp ?_
 refine gF rfl (fun hn3=>?_) (fun hn3=>?_)
 rotate_left
 ·refine sp ?_
  rw[Vc]
  refine sp ?_
  exact finIs (hL _ _) (congrArg Value.bool (by rw[sameV_eq,decide_eq_false hn3,hnu,decide_eq_true hnm]; rfl))
 have hnt:x.tx=y.tx:=Decidable.not_not.1 hn3
 refine sp ?_
 refine lOn Shp.eq mem1 rfl ?_
 refine sp ?_
 refine lOn Shp.eq mem0 rfl ?_
 refine sp ?_
 rw[Vc]
 refine sp ?_
 refine cdD (fun hn4=>?_) (fun hn4=>?_)
 ·refine sp ?_
  exact finIs (hL _ _) (congrArg Value.bool (by rw[sameV_eq,sameL_len (by omega),hnu,decide_eq_true hnm,decide_eq_true hnt]; rfl))
 have hlen:x.ls.length=y.ls.length:=by omega
 have hres:sameV x y=sameL x.ls y.ls:=by rw[sameV_eq,hnu,decide_eq_true hnm,decide_eq_true hnt]; rfl
 refine sp ?_
 refine lOn Shp.eq mem1 rfl ?_
 refine sp ?_
 refine forget (fun e=>e 2=.pointer (some ⟨b2,0,none⟩)∧e 3=.pointer (some ⟨b3,0,none⟩)∧e 36=i64 x.ls.length∧e 37=i64 0) ⟨rfl,rfl,rfl,rfl⟩ ?_
 rintro e ⟨h2,h3,h36,h37⟩
 rw[Vb]
 simp (disch:=omega) only[push_cast,qE,h2,h3,h36,h37]
 refine loopW (G:=Nat) (SaI w b2 b3 x y xa ya xc yc) (fun i=>x.ls.length - i) 0 _ (fun w hw=>hw) (by kernel_rfl) ⟨rfl,rfl,rfl,by omega,rfl,h2,h3,h36,un h37⟩ ?_
 clear h2 h3 h36 h37 e
 rintro i wb e ds L ⟨rfl,rfl,rfl,hi,hr,h2,h3,h36,h37⟩
 simp (disch:=omega) only[push_cast,qE,h2,h3,h36,h37]
 rw[Vc]
 simp (disch:=omega) only[push_cast,qE,h2,h3,h36,h37]
 refine cdD (fun hlt=>?_) (fun hge=>?_)
 rotate_left
 ·simp (disch:=omega) only[push_cast,qE,h2,h3,h36,h37]
  obtain rfl:i=x.ls.length:=by omega
  rw[List.drop_length,hlen,List.drop_length] at hr
  exact finIs (hL _ _) (congrArg Value.bool (by rw[hres,← hr]; rfl))
 have hlx:i < x.ls.length:=by omega
 have hly:i < y.ls.length:=by omega
 obtain ⟨p,hp⟩:∃ p,x.ls[i]?=some p:=⟨_,qH hlx⟩
 obtain ⟨q,hq⟩:∃ q,y.ls[i]?=some q:=⟨_,qH hly⟩
 have hsz:=Vl.size_get hp
 obtain ⟨pb,poff,pa,pc,rfl,p1,p2,p3⟩:=hX.get hp
 obtain ⟨qb,qoff,qa,qc,rfl,r1,r2,r3⟩:=hY.get hq
 simp (disch:=omega) only[push_cast,qE,h2,h3,h36,h37]
 rw[Vb]
 simp (disch:=omega) only[push_cast,qE,h2,h3,h36,h37]
 refine drawQT (by kernel_rfl) (by kernel_rfl) mixed (by kernel_rfl) ?_
 simp (disch:=omega) only[push_cast,qE,h2,h3,h36,h37]
 refine lOn Shp.eq mem1 rfl ?_
 simp (disch:=omega) only[push_cast,qE,h2,h3,h36,h37]
 refine ldAggF Shp.eq p2 rfl (out_of (fun p hp=>Nat.lt_of_lt_of_le (Nat.lt_of_lt_of_le p1 hlo) (hL _ _ p hp))) ?_
 simp (disch:=omega) only[push_cast,qE,h2,h3,h36,h37,Vl.cells]
 refine lOn Shp.eq mem0 rfl ?_
 simp (disch:=omega) only[push_cast,qE,h2,h3,h36,h37]
 refine ldAggF Shp.eq r2 rfl (out_of (fun p hp=>Nat.lt_of_lt_of_le (Nat.lt_of_lt_of_le r1 hlo) (hL _ _ p hp))) ?_
 simp (disch:=omega) only[push_cast,qE,h2,h3,h36,h37,Vl.cells]
 refine qcallV en_17 (qcallX_is (.bool (sameV p q)) (fun w' hw'=>ih w' lo p q pa qa pc qc (by omega) (Nat.le_trans hlo hw'.size) (p3.sy hlo hw' (hL _ _)) (r3.sy hlo hw' (hL _ _))) ?_)
 simp (disch:=omega) only[push_cast,qE,h2,h3,h36,h37]
 rw[Vc]
 simp (disch:=omega) only[push_cast,qE,h2,h3,h36,h37]
 refine cdB (fun hne=>?_) (fun hne=>?_)
 ·simp (disch:=omega) only[push_cast,qE,h2,h3,h36,h37]
  exact finIs (hL _ _) (congrArg Value.bool (by rw[Bool.not_eq_true'] at hne; rw[hres,← hr,sameL_step hp hq,hne]; rfl))
 ·simp (disch:=omega) only[push_cast,qE,h2,h3,h36,h37]
  rw[Bool.not_eq_false'] at hne
  refine ⟨i+1,_,fun w hw=>hw,⟨rfl,rfl,rfl,by omega,by rw[← hr,sameL_step hp hq,hne]; rfl,h2,h3,h36,uu⟩,by omega⟩
set_option maxHeartbeats 40000000
structure SrI (w0:World) (b2 b3:Nat) (x y:Vl) (xa ya:Option Addr) (xc yc:Nat) (i:Nat) (wb:World) (e:Env) (ds:List Deferred) (L:Own):Prop where
 hw:wb=w0
 hds:ds=[]
 o:L=[(qb3 b3 y.nu y.num y.tx ya y.ls.length yc),(qb3 b2 x.nu x.num x.tx xa x.ls.length xc)]
 hi:i≤x.ls.length
 hr:sameL (x.ls.drop i) (y.ls.drop i)=sameL x.ls y.ls
 h2:e 2=.pointer (some ⟨b2,0,none⟩)
 h3:e 3=.pointer (some ⟨b3,0,none⟩)
 h5:e 5=i64 i
theorem sameR_all:∀ (n:Nat) (w:World) (lo:Nat) (x y:Vl) (xa ya:Option Addr) (xc yc:Nat),SizeOf.sizeOf x≤n→lo≤w.heap.size→VAt w lo x xa xc→VAt w lo y ya yc →
 Calls Tryz.prog 13 #[.agg (x.cells xa xc).toArray,.agg (y.cells ya yc).toArray] w (Rets w (Is (.bool (sameV x y)))):=by
 intro n
 induction n with
 | zero=>intro w lo x y xa ya xc yc hn; cases x; simp at hn
 | succ n ih =>
 intro w lo x y xa ya xc yc hn hlo hX hY
 have hbnd:x.ls.length≤9223372036854775807:=Nat.le_trans hX.hc hX.hc2
 have hbndy:y.ls.length≤9223372036854775807:=Nat.le_trans hY.hc hY.hc2
 refine enterT (args:=[.agg (x.cells xa xc).toArray,.agg (y.cells ya yc).toArray]) Tryz.func13 rfl Tryz.ntmps13 (congrArg Array.toList Tryz.results13) (by kernel_rfl) (by simp) (Sy.refl w) ?_
 simp (disch:=omega) only[push_cast,qE,Vl.cells]
 refine newI (fun b2 hb2 hn2=>?_)
 simp (disch:=omega) only[push_cast,qE,Vl.cells]
 refine newI (fun b3 hb3 hn3=>?_)
 simp (disch:=omega) only[push_cast,qE,Vl.cells]
 have hL:∀ x y:Obj,∀ p∈[(b3,x),(b2,y)],w.heap.size≤p.1:=fun x y p hp=>by
  simp only[List.mem_cons,qI,or_false] at hp
  rcases hp with rfl|rfl
  ·exact hb3
  ·exact hb2
 refine lOn Shp.eq mem1 rfl ?_
 refine sp ?_
 refine lOn Shp.eq mem0 rfl ?_
 refine sp ?_
 refine gbF rfl (fun g1=>?_) (fun g1=>?_)
 rotate_left
 ·refine sp ?_
  rw[Vc]
  refine sp ?_
  exact finIs (hL _ _) (congrArg Value.bool (by rw[sameV_eq]; rcases hx:x.nu<;>rcases hy:y.nu<;>simp_all))
 refine sp ?_
 refine lOn Shp.eq mem1 rfl ?_
 refine sp ?_
 refine lOn Shp.eq mem0 rfl ?_
 refine sp ?_
 refine gF rfl (fun g2=>?_) (fun g2=>?_)
 rotate_left
 ·refine sp ?_
  rw[Vc]
  refine sp ?_
  exact finIs (hL _ _) (congrArg Value.bool (by rw[sameV_eq]; simp[g2]))
 refine sp ?_
 refine lOn Shp.eq mem1 rfl ?_
 refine sp ?_
 refine lOn Shp.eq mem0 rfl ?_
 refine sp ?_
 refine gF rfl (fun g3=>?_) (fun g3=>?_)
 rotate_left
 ·refine sp ?_
  rw[Vc]
  refine sp ?_
  exact finIs (hL _ _) (congrArg Value.bool (by rw[sameV_eq]; simp[g3]))
 refine sp ?_
 refine lOn Shp.eq mem1 rfl ?_
 refine sp ?_
 refine lOn Shp.eq mem0 rfl ?_
 refine sp ?_
 rw[Vc]
 refine sp ?_
 refine cdD (fun g4=>?_) (fun g4=>?_)
 ·refine sp ?_
  exact finIs (hL _ _) (congrArg Value.bool (by rw[sameV_eq,sameL_len (by omega)]; simp))
 have hres:sameV x y=sameL x.ls y.ls:=by
  rw[sameV_eq]
  have e1:(x.nu == y.nu)=true:=by rcases hx:x.nu<;>rcases hy:y.nu<;>simp_all
  rw[e1,decide_eq_true (Decidable.not_not.1 g2),decide_eq_true (Decidable.not_not.1 g3)]
  simp
 refine forget (fun e=>e 2=.pointer (some ⟨b2,0,none⟩)∧e 3=.pointer (some ⟨b3,0,none⟩)) ⟨rfl,rfl⟩ ?_
 rintro e ⟨h2,h3⟩
 simp (disch:=omega) only[push_cast,qE,h2,h3]
 rw[Vb]
 simp (disch:=omega) only[push_cast,qE,h2,h3]
 refine loopW (G:=Nat) (SrI w b2 b3 x y xa ya xc yc) (fun i=>x.ls.length - i) 0 _ (fun w hw=>hw) (by kernel_rfl) ⟨rfl,rfl,rfl,by omega,rfl,h2,h3,rfl⟩ ?_
 clear h2 h3 e
 rintro i wb e ds L ⟨rfl,rfl,rfl,hi,hr,h2,h3,h5⟩
 simp (disch:=omega) only[push_cast,qE,h2,h3,h5]
 refine lOn Shp.eq mem1 rfl ?_
 simp (disch:=omega) only[push_cast,qE,h2,h3,h5]
 rw[Vc]
 simp (disch:=omega) only[push_cast,qE,h2,h3,h5]
 refine cdD (fun hlt=>?_) (fun hge=>?_)
 rotate_left
 ·obtain rfl:i=x.ls.length:=by omega
  simp (disch:=omega) only[push_cast,qE,h2,h3,h5]
  exact finIs (hL _ _) (congrArg Value.bool (by rw[hres,← hr,List.drop_length,List.drop_of_length_le (by omega)]; rfl))
 obtain ⟨p,hp⟩:∃ p,x.ls[i]?=some p:=⟨_,qH (by omega)⟩
 obtain ⟨q,hq⟩:∃ q,y.ls[i]?=some q:=⟨_,qH (by omega)⟩
 have hsz:=Vl.size_get hp
 obtain ⟨pb,poff,pa,pc,rfl,p1,p2,p3⟩:=hX.get hp
 obtain ⟨qb,qoff,qa,qc,rfl,r1,r2,r3⟩:=hY.get hq
 simp (disch:=omega) only[push_cast,qE,h2,h3,h5]
 rw[Vb]
 simp (disch:=omega) only[push_cast,qE,h2,h3,h5]
 refine drawQT (by kernel_rfl) (by kernel_rfl) mixed (by kernel_rfl) ?_
 simp (disch:=omega) only[push_cast,qE,h2,h3,h5]
 refine lOn Shp.eq mem1 rfl ?_
 simp (disch:=omega) only[push_cast,qE,h2,h3,h5]
 refine ldAggF Shp.eq p2 rfl (out_of (fun p hp=>Nat.lt_of_lt_of_le (Nat.lt_of_lt_of_le p1 hlo) (hL _ _ p hp))) ?_
 simp (disch:=omega) only[push_cast,qE,h2,h3,h5,Vl.cells]
 refine lOn Shp.eq mem0 rfl ?_
 simp (disch:=omega) only[push_cast,qE,h2,h3,h5]
 refine ldAggF Shp.eq r2 rfl (out_of (fun p hp=>Nat.lt_of_lt_of_le (Nat.lt_of_lt_of_le r1 hlo) (hL _ _ p hp))) ?_
 simp (disch:=omega) only[push_cast,qE,h2,h3,h5,Vl.cells]
 refine qcallV en_13 (qcallX_is (.bool (sameV p q)) (fun w' hw'=>ih w' lo p q pa qa pc qc (by omega) (Nat.le_trans hlo hw'.size) (p3.sy hlo hw' (hL _ _)) (r3.sy hlo hw' (hL _ _))) ?_)
 simp (disch:=omega) only[push_cast,qE,h2,h3,h5]
 rw[Vc]
 simp (disch:=omega) only[push_cast,qE,h2,h3,h5]
 refine cdB (fun hne=>?_) (fun hne=>?_)
 ·simp (disch:=omega) only[push_cast,qE,h2,h3,h5]
  exact finIs (hL _ _) (congrArg Value.bool (by rw[Bool.not_eq_true'] at hne; rw[hres,← hr,sameL_step hp hq,hne]; rfl))
 ·simp (disch:=omega) only[push_cast,qE,h2,h3,h5]
  rw[Bool.not_eq_false'] at hne
  refine ⟨i+1,_,fun w hw=>hw,⟨rfl,rfl,rfl,by omega,by rw[← hr,sameL_step hp hq,hne]; rfl,h2,h3,uu⟩,by omega⟩
end Go.Proofs.YtilejcofleeeiaaGreatDoor
