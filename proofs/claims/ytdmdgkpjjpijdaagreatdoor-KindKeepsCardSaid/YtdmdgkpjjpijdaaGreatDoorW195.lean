/- YtdmdgkpjjpijdaaGreatDoor: walks, part 195: any text as a field. -/
import Derived.Test.YtdmdgkpjjpijdaaGreatDoorW194
namespace Go.Proofs.YtdmdgkpjjpijdaaGreatDoor
open Go Go.K
open Nat renaming reduceEqDiff → qE
open List renaming mem_cons → qM, mem_append_right → qR, mem_append_left → qL, length_cons → qN, mem_append → qP, mem_nil_iff → qI
set_option maxRecDepth 100000
set_option linter.unusedVariables false
set_option linter.unusedSimpArgs false
set_option maxHeartbeats 16000000
theorem ndP_len:∀ (d:Nat) (path:List Nat) (ind:Bool) (l:List Fld) (x:FNode),x∈nd d path ind l→x.path.length≤path.length+d
 | 0,_,_,_,x,h=>by simp[nd] at h
 | d+1,path,ind,l,x,h=>by
  simp only[nd,List.mem_flatMap,qM] at h
  obtain ⟨p,_,rfl|h⟩:=h
  ·simp
  ·have:=ndP_len d _ _ _ x h
   simp only[List.length_append,List.length_singleton] at this
   omega
theorem way_len (f:Fld):(checkP [f] []).2.1.length≤65:=by
 have e:checkP [f] []=((faultN (nd 65 [] false [f])).1,(faultN (nd 65 [] false [f])).2,0):=by unfold checkP; simp
 rw[e]
 simp only
 unfold faultN
 cases hj:firstWrong (nd 65 [] false [f]) with
 | none=>simp
 | some j =>
  simp only
  unfold pathAt
  cases hx:(nd 65 [] false [f])[j]? with
  | none=>simp
  | some x =>
   have:=ndP_len 65 [] false [f] x (List.mem_of_getElem? hx)
   simpa using this
structure PfN (w0:World) (b2 b3 b4:Nat) (f:Fld) (a:Option Addr) (c:Nat) (ev q:Int) (at_:Int) (a2:Option Addr) (n2 c2:Nat) (pv:Value) (ds0:List Deferred) (P7 P6:Nat×Obj) (A:Own) (tl:List Nat) (D:Nat→Bool) (e:Env) (ds:List Deferred) (L:Own):Prop where
 hds:ds=ds0
 h2:e 2=.pointer (some ⟨b2,0,none⟩)
 h3:e 3=.pointer (some ⟨b3,0,none⟩)
 h4:e 4=.pointer (some ⟨b4,0,none⟩)
 e28:e 28=.agg (noF.cells none 0).toArray
 e30:e 30=i64 ev
 e31:e 31=.agg #[i64 at_,.slice a2 n2 c2]
 e35:e 35=pv
 m8:D 8=true→D 5=true
 m9:D 9=true→D 4=true∧D 8=true
 m11:D 11=true→D 10=true
 m12:D 12=true→D 9=true∧D 11=true
 o:∃ (b40 b41:Nat) (za:Option Addr) (zc:Nat) (R:Own),
  (D 4=true→e 32=.slice (some ⟨b40,0,none⟩) 1 1∧w0.heap.size≤b40)∧(D 5=true→e 33=.slice (some ⟨b41,0,none⟩) 1 1∧w0.heap.size≤b41) ∧
  (D 8=true→e 36=.slice za (0::tl).length zc∧RowO w0 3 1 R [] (.slice za (0::tl).length zc) (0::tl).length (ints (0::tl)))∧(D 9=true→e 37=i64 q) ∧
  L=oFi b2 (if D 10=true then noF else f) (if D 10=true then none else a) (if D 10=true then 0 else c)::oEr b3 (if D 11=true then ev else 0)::oIn b4 (if D 12=true then q else 0)::P7::P6::(A++((if D 4=true then [(qb6 b40 at_ a2 n2 c2)] else [])++(if D 8=true then R else if D 5=true then [(qb13 b41)] else [])))
theorem SemT_weak {c:Cfg} {code:Code} {Q:Post} {wb:World} {e:Env} {ds:List Deferred} {L L':Own} (h:∀ w,Sy wb L w→Sy wb L' w) (hk:SemT c (tag code) (tag Q) wb e ds L'):SemT c (tag code) (tag Q) wb e ds L:=fun a w hr hw=>hk a w hr (h w hw)
theorem parseFieldP_walk (w:World) (hs:SaysAt w) (hl:LibAt w) (t:List UInt8) (ht:t.length≤9223372036854775807) :
 Calls Tryz.prog 9 #[str t] w (RetsN w (PfV (parseF t))):=by
 refine enterD (args:=[str t]) Tryz.func9 rfl Tryz.ntmps9 (congrArg Array.toList Tryz.results9) (by kernel_rfl) (by simp) (Sy.refl w) ?_
 refine sp ?_
 refine newI (fun b2 hb2 hn2=>?_)
 refine sp ?_
 refine newI (fun b3 hb3 hn3=>?_)
 refine sp ?_
 refine newI (fun b4 hb4 hn4=>?_)
 refine sp ?_
 rw[Vc]
 refine sp ?_
 refine cdD (fun hbig=>?_) (fun hsm=>?_)
 ·refine sp ?_
  refine sXa 2 rfl Siz.eq rfl rfl ?_
  refine sp ?_
  refine sXa 1 rfl Siz.eq rfl rfl ?_
  refine sp ?_
  refine sXa 0 rfl Siz.eq rfl rfl ?_
  refine sp ?_
  refine .inl (lAg Shp.eq mem2 rfl rfl ?_)
  refine sp ?_
  refine lOn Shp.eq mem1 rfl ?_
  refine sp ?_
  refine lOn Shp.eq mem0 rfl ?_
  refine sp ?_
  have hr:parseF t=⟨noF,4,65536⟩:=by unfold parseF; rw[if_pos (by omega)]
  rw[hr]
  refine fun w' hw'=>⟨_,[],rfl,hw'.end (fun b hb=>by
   simp only[qM,qI,or_false] at hb
   rcases hb with rfl|rfl|rfl<;>assumption),by simp,none,0,[],rfl,?_,by simp⟩
  exact own_noF
 refine sp ?_
 refine ⟨rfl,_,fun w=>rfl,?_⟩
 refine sp ?_
 refine newI (fun b5 hb5 hn5=>?_)
 refine sp ?_
 have hM3:∀ b∈[oIn b4 0,oEr b3 0,oFi b2 noF none 0],w.heap.size≤b.1:=fun b hb=>by
  simp only[qM,qI,or_false] at hb
  rcases hb with rfl|rfl|rfl<;>assumption
 have ht2:t.length≤65536:=by omega
 refine callV en_48 (callX_pr (fun w' hw'=>fields_ok (t.length+1) w w' b5 t 0 [oIn b4 0,oEr b3 0,oFi b2 noF none 0] ⟨ht2,hs,hl,Nat.zero_le _,hb5,hM3,hw'⟩ (by omega)) (fun x q v p' K hr hq hp' hS hK=>?_) (fun q8 K hr hK=>?_))
 rotate_left
 ·refine sp ?_
  have hr8:parseF t=⟨noF,8,q8⟩:=by unfold parseF; rw[if_neg (by omega),pOne,hr,PR.and_no]
  have hM8:=hK
  refine .inr ⟨_,_,rfl,en_47,fun w' hw'=>(fieldC_back w w' (K) b2 b3 b4 noF none 0 0 0 q8 hb2 hb3 hb4 hM8 (hw'.perm (pC))).mono ?_⟩
  rintro e1 u1 w1 ⟨rfl,hu,b9,hb9,hw1⟩
  refine ⟨rfl,hu,_,hw1,?_⟩
  try simp (disch:=omega) only[push_cast,qE]
  refine lAg Shp.eq mem1 rfl rfl ?_
  refine sp ?_
  refine lOn Shp.eq mem2 rfl ?_
  refine sp ?_
  refine lOn Shp.eq mem3 rfl ?_
  refine sp ?_
  rw[hr8]
  exact fun w2 hw2=>⟨_,[],rfl,hw2.end (fun b hb=>by
   simp only[qM] at hb
   rcases hb with rfl|rfl|rfl|rfl|hb
   ·exact hb9
   ·exact hb2
   ·exact hb3
   ·exact hb4
   ·exact hM8 b (un hb)),by simp,none,0,[],rfl,own_noF,by simp⟩
 refine sp ?_
 (refine xe6 (hS) (fun a c a2 c2 K1 K2 hz=>?_); have ez:=hz.1; subst ez; have ez:=hz.2.1; subst ez; have hO1:=hz.2.2.1; have hO2:=hz.2.2.2; clear hz)
 simp (disch:=omega) only[push_cast,qE,Fld.cells]
 refine newI (fun b6 hb6 hn6=>?_)
 simp (disch:=omega) only[push_cast,qE,Fld.cells]
 refine storeX_weak (L':=oFi b2 noF none 0::oSp b6 0 none 0 0::oRd b5 t p'::oIn b4 0::oEr b3 0::(K1++K2)) (fun w hw=>hw.perm (?_:List.Perm (oSp b6 0 none 0 0::oRd b5 t p'::((K1++K2)++[oIn b4 0,oEr b3 0,oFi b2 noF none 0])) _)) (sXa 0 rfl Siz.eq rfl rfl ?_)
 ·exact pC
 simp (disch:=omega) only[push_cast,qE,Fld.cells]
 refine sXa 1 rfl Siz.eq rfl rfl ?_
 simp (disch:=omega) only[push_cast,qE,Fld.cells]
 have hM6:∀ b∈oFi b2 x.1 a c::oSp b6 x.2.at_ a2 x.2.kids.length c2::oIn b4 0::oEr b3 0::(K1++K2),w.heap.size≤b.1:=fun b hb=>by
  simp only[qM] at hb
  rcases hb with rfl|rfl|rfl|rfl|hb
  ·exact hb2
  ·exact hb6
  ·exact hb4
  ·exact hb3
  ·exact hK b hb
 refine callV en_39 (callX_pr (M:=oFi b2 x.1 a c::oSp b6 x.2.at_ a2 x.2.kids.length c2::oIn b4 0::oEr b3 0::(K1++K2)) (fun w' hw'=>end_walk w w' b5 t p' _ ht2 hp' hb5 (Sy.perm (L:=oFi b2 x.1 a c::oSp b6 x.2.at_ a2 x.2.kids.length c2::oRd b5 t p'::oIn b4 0::oEr b3 0::(K1++K2)) hw' (pC))) (fun _ q' v p2 K hr2 hq2 hp2 hS2 hK2=>?_) (fun q8 K hr2 hK2=>?_))
 rotate_left
 ·simp (disch:=omega) only[push_cast,qE,Fld.cells]
  have hr8:parseF t=⟨noF,8,q8⟩:=by
   unfold parseF
   rw[if_neg (by omega),pOne,hr,PR.and_ok,← hq,pEnd_no hr2]
  have hM8:∀ b∈oSp b6 x.2.at_ a2 x.2.kids.length c2::((K1++K2)++K),w.heap.size≤b.1:=fun b hb=>by
   simp only[qM,qP] at hb hK
   rcases hb with rfl|hb|hb
   ·exact hb6
   ·exact hK b hb
   ·exact hK2 b hb
  refine .inr ⟨_,_,rfl,en_47,fun w' hw'=>(fieldC_back w w' (oSp b6 x.2.at_ a2 x.2.kids.length c2::((K1++K2)++K)) b2 b3 b4 x.1 a c 0 0 q8 hb2 hb3 hb4 hM8 (hw'.perm (pC))).mono ?_⟩
  rintro e1 u1 w1 ⟨rfl,hu,b9,hb9,hw1⟩
  refine ⟨rfl,hu,_,hw1,?_⟩
  try simp (disch:=omega) only[push_cast,qE]
  refine lAg Shp.eq mem1 rfl rfl ?_
  refine sp ?_
  refine lOn Shp.eq mem2 rfl ?_
  refine sp ?_
  refine lOn Shp.eq mem3 rfl ?_
  refine sp ?_
  rw[hr8]
  exact fun w2 hw2=>⟨_,[],rfl,hw2.end (fun b hb=>by
   simp only[qM] at hb
   rcases hb with rfl|rfl|rfl|rfl|hb
   ·exact hb9
   ·exact hb2
   ·exact hb3
   ·exact hb4
   ·exact hM8 b (un hb)),by simp,none,0,[],rfl,own_noF,by simp⟩
 obtain ⟨rfl,rfl⟩:=hS2
 refine sp ?_
 have hM7:∀ (K:Own),(∀ b∈K,w.heap.size≤b.1)→∀ b∈K++(oRd b5 t p2::oFi b2 x.1 a c::oSp b6 x.2.at_ a2 x.2.kids.length c2::oIn b4 0::oEr b3 0::(K1++K2)),w.heap.size≤b.1:=fun K h b hb=>by
  rcases List.mem_append.1 hb with hb|hb
  ·exact h b hb
  rcases List.mem_cons.1 hb with rfl|hb
  ·exact hb5
  ·exact hM6 b hb
 refine lAg Shp.eq mem1 rfl rfl ?_
 refine sp ?_
 refine callV en_49 (cNw (fun w' hw'=>checkField_walk w' (hs.mono hw' (hM7 [] (by simp))) w'.heap.size (Nat.le_refl _) x.1 a c (hO1.rd hw' (fun b hb=>by simp[hb])) hO1.le.1 hO1.le.2 hO1.nm_le) (fun v M8 hM8 hn8 hS8=>?_))
 refine Exists.elim hS8 (fun pa h8=>Exists.elim h8 (fun pc h8=>?_))
 have hv8:=h8.1
 subst hv8
 refine sp ?_
 refine newI (fun b7 hb7 hn7=>?_)
 refine sp ?_
 refine sXa 0 rfl Siz.eq rfl rfl ?_
 refine sp ?_
 refine lOn Shp.eq mem0 rfl ?_
 refine sp ?_
 rw[Vc]
 refine sp ?_
 refine cdD (fun hne=>?_) (fun heq=>?_)
 ·have hc0:(checkP [x.1] []).1≠0:=hne
  have hr8:parseF t=⟨noF,(checkP [x.1] []).1,foundP [x.2] (checkP [x.1] []).2.1 0⟩:=by
   unfold parseF
   rw[if_neg (by omega),pOne,hr,PR.and_ok,← hq,pEnd_ok hr2]
   simp only
   rw[if_neg hc0]
  have hlike:Like x.1 x.2:=pField_like t _ _ _ _ hr
  have hlk:LikeL [x.1] [x.2]:=by rw[LikeL,LikeL]; exact ⟨hlike,trivial⟩
  have hok:okW [x.2] (checkP [x.1] []).2.1:=check_way hlk
  have hpl:=way_len x.1
  obtain ⟨tl,htl⟩:=check_zero hlk hc0
  obtain ⟨bp,cap,cs,rfl,rfl,hmp,hrp⟩:∃ b cap cs,pa=some ⟨b,if cap=1 then 0 else 1,none⟩∧pc=cap - 1∧(b,.cells cs 3 (0,0))∈M8∧RowIn [(b,.cells cs 3 (0,0))] 3 (.slice (some ⟨b,0,none⟩) (checkP [x.1] []).2.1.length cap) (checkP [x.1] []).2.1.length (ints (checkP [x.1] []).2.1):=by
   rcases h8.2 with ⟨_,_,h⟩|h
   ·rw[htl] at h; cases h
   ·exact h
  clear h8 hS8
  rw[htl] at hr8 hok hpl hrp
  simp only[qN] at hpl
  simp only[htl,List.tail_cons]
  have hLn:∀ b∈(b7,Obj.cells #[i64 (checkP [x.1] []).1,.slice (some ⟨bp,if cap=1 then 0 else 1,none⟩) tl.length (cap - 1),i64 (checkP [x.1] []).2.2] 51 (0,0))::(M8++(oRd b5 t p2::oFi b2 x.1 a c::oSp b6 x.2.at_ a2 x.2.kids.length c2::oIn b4 0::oEr b3 0::(K1++K2))),w.heap.size≤b.1:=fun b hb=>by
   simp only[qM,qP] at hb hK
   rcases hb with rfl|hb|rfl|rfl|rfl|rfl|rfl|hb|hb
   ·exact hb7
   ·exact hM8 b hb
   ·exact hb5
   ·exact hb2
   ·exact hb6
   ·exact hb4
   ·exact hb3
   ·exact hK b (.inl hb)
   ·exact hK b (.inr hb)
  have hsub:List.Sublist [(b7,Obj.cells #[i64 (checkP [x.1] []).1,.slice (some ⟨bp,if cap=1 then 0 else 1,none⟩) tl.length (cap - 1),i64 (checkP [x.1] []).2.2] 51 (0,0)),oSp b6 x.2.at_ a2 x.2.kids.length c2] ((b7,Obj.cells #[i64 (checkP [x.1] []).1,.slice (some ⟨bp,if cap=1 then 0 else 1,none⟩) tl.length (cap - 1),i64 (checkP [x.1] []).2.2] 51 (0,0))::(M8++(oRd b5 t p2::oFi b2 x.1 a c::oSp b6 x.2.at_ a2 x.2.kids.length c2::oIn b4 0::oEr b3 0::(K1++K2)))):=.cons_cons _ (List.singleton_sublist.2 (qR _ (.tail _ (.tail _ (.head _)))))
  refine sp ?_
  have hbd:∀ (D:Nat→Bool) (b40 b41:Nat) (R:Own) (o2 o3 o4:Obj),(D 4=true→w.heap.size≤b40)→(D 5=true→w.heap.size≤b41)→(D 8=true→∀ b∈R,w.heap.size≤b.1)→∀ b∈(b2,o2)::(b3,o3)::(b4,o4)::(b7,Obj.cells #[i64 (checkP [x.1] []).1,.slice (some ⟨bp,if cap=1 then 0 else 1,none⟩) tl.length (cap - 1),i64 (checkP [x.1] []).2.2] 51 (0,0))::oSp b6 x.2.at_ a2 x.2.kids.length c2::(oRd b5 t p2::(M8++(K1++K2))++((if D 4=true then [(qb6 b40 x.2.at_ a2 x.2.kids.length c2)] else [])++(if D 8=true then R else if D 5=true then [(qb13 b41)] else []))),w.heap.size≤b.1:=fun D b40 b41 R o2 o3 o4 q4 q5 q8 b hb=>by
   simp only[qM,qP] at hb hK
   rcases hb with rfl|rfl|rfl|rfl|rfl|(rfl|hb|hb|hb)|hb|hb
   ·exact hb2
   ·exact hb3
   ·exact hb4
   ·exact hb7
   ·exact hb6
   ·exact hb5
   ·exact hM8 b hb
   ·exact hK b (.inl hb)
   ·exact hK b (.inr hb)
   ·split at hb
    ·rename_i h; rw[List.mem_singleton.1 hb]; exact q4 h
    ·cases hb
   ·split at hb
    ·rename_i h; exact q8 h b hb
    ·split at hb
     ·rename_i h; rw[List.mem_singleton.1 hb]; exact q5 h
     ·cases hb
  refine SemT_weak (L':=oFi b2 x.1 a c::oEr b3 0::oIn b4 0::(b7,Obj.cells #[i64 (checkP [x.1] []).1,.slice (some ⟨bp,if cap=1 then 0 else 1,none⟩) tl.length (cap - 1),i64 (checkP [x.1] []).2.2] 51 (0,0))::oSp b6 x.2.at_ a2 x.2.kids.length c2::(oRd b5 t p2::(M8++(K1++K2)))) (fun w hw=>hw.perm (pC:List.Perm ((b7,Obj.cells #[i64 (checkP [x.1] []).1,.slice (some ⟨bp,if cap=1 then 0 else 1,none⟩) tl.length (cap - 1),i64 (checkP [x.1] []).2.2] 51 (0,0))::(M8++(oRd b5 t p2::oFi b2 x.1 a c::oSp b6 x.2.at_ a2 x.2.kids.length c2::oIn b4 0::oEr b3 0::(K1++K2)))) (oFi b2 x.1 a c::oEr b3 0::oIn b4 0::(b7,Obj.cells #[i64 (checkP [x.1] []).1,.slice (some ⟨bp,if cap=1 then 0 else 1,none⟩) tl.length (cap - 1),i64 (checkP [x.1] []).2.2] 51 (0,0))::oSp b6 x.2.at_ a2 x.2.kids.length c2::(oRd b5 t p2::(M8++(K1++K2)))))) ?_
  refine freeIT [0,1,2,3,6,7] [4,5,8,9,10,11,12] [(4,[]),(5,[]),(8,[5]),(9,[4,8]),(10,[]),(11,[10]),(12,[9,11])] [(b7,Obj.cells #[i64 (checkP [x.1] []).1,.slice (some ⟨bp,if cap=1 then 0 else 1,none⟩) tl.length (cap - 1),i64 (checkP [x.1] []).2.2] 51 (0,0)),oSp b6 x.2.at_ a2 x.2.kids.length c2] (PfN w b2 b3 b4 x.1 a c (checkP [x.1] []).1 (foundP [x.2] (0::tl) 0) x.2.at_ a2 x.2.kids.length c2 (.slice (some ⟨bp,if cap=1 then 0 else 1,none⟩) tl.length (cap - 1)) [{ target:=.fn (.func 47) #[.pointer (some ⟨b2,0,none⟩),.pointer (some ⟨b3,0,none⟩),.pointer (some ⟨b4,0,none⟩)],args:=#[] }] (b7,Obj.cells #[i64 (checkP [x.1] []).1,.slice (some ⟨bp,if cap=1 then 0 else 1,none⟩) tl.length (cap - 1),i64 (checkP [x.1] []).2.2] 51 (0,0)) (oSp b6 x.2.at_ a2 x.2.kids.length c2) (oRd b5 t p2::(M8++(K1++K2))) tl) (by kernel_rfl) mixed (by kernel_rfl) (by kernel_rfl) (fun D e ds L hI=>?_) ?_ ?_ (Stab.of (.cons _ (.cons _ (.cons _ (.cons_cons _ (.cons_cons _ (List.nil_sublist _)))))) (fun b hb=>hbd (fun _=>false) 0 0 [] _ _ _ (by simp) (by simp) (by simp) b (un hb))) ?_
  ·obtain ⟨rfl,h2,h3,h4,e28,e30,e31,e35,m8,m9,m11,m12,b40,b41,za,zc,R,d4,d5,d8,d9,rfl⟩:=hI
   exact Stab.of (.cons _ (.cons _ (.cons _ (.cons_cons _ (.cons_cons _ (List.nil_sublist _)))))) (hbd D b40 b41 R _ _ _ (fun h=>(d4 h).2) (fun h=>(d5 h).2) (fun h=>RowO.new (d8 h).2 (by simp)))
  ·intro p hp D e ds L hD hdep hI
   obtain ⟨rfl,h2,h3,h4,e28,e30,e31,e35,m8,m9,m11,m12,b40,b41,za,zc,R,d4,d5,d8,d9,rfl⟩:=hI
   simp only[qM,qI,or_false] at hp
   rcases hp with rfl|rfl|rfl|rfl|rfl|rfl|rfl
   all_goals simp only[qM,qI,or_false,forall_eq_or_imp,forall_eq,false_implies,implies_true] at hD hdep
   ·have n9:D 9=false:=bf ((fun h=>(m9 h).1)) hD
    have n12:D 12=false:=bf ((fun h=>(m12 h).1)) n9
    simp (disch:=omega) only[push_cast,qE,h2,h3,h4,e28,e30,e31,e35,hD,n9,n12,Bool.false_eq_true,if_false,if_true,List.append_nil,List.nil_append]
    refine bs_74_1 (newI fun bn hbn hnn=>?_)
    simp (disch:=omega) only[push_cast,qE,h2,h3,h4,e28,e30,e31,e35,hD,n9,n12,Bool.false_eq_true,if_false,if_true,List.append_nil,List.nil_append]
    refine ⟨oFi b2 (if D 10=true then noF else x.1) (if D 10=true then none else a) (if D 10=true then 0 else c)::oEr b3 (if D 11=true then (checkP [x.1] []).1 else 0)::oIn b4 0::(b7,Obj.cells #[i64 (checkP [x.1] []).1,.slice (some ⟨bp,if cap=1 then 0 else 1,none⟩) tl.length (cap - 1),i64 (checkP [x.1] []).2.2] 51 (0,0))::oSp b6 x.2.at_ a2 x.2.kids.length c2::(oRd b5 t p2::(M8++(K1++K2))++([(qb6 bn x.2.at_ a2 x.2.kids.length c2)]++(if D 8=true then R else if D 5=true then [(qb13 b41)] else []))),fun w hw=>hw.perm (pC:List.Perm ((qb6 bn x.2.at_ a2 x.2.kids.length c2)::oFi b2 (if D 10=true then noF else x.1) (if D 10=true then none else a) (if D 10=true then 0 else c)::oEr b3 (if D 11=true then (checkP [x.1] []).1 else 0)::oIn b4 0::(b7,Obj.cells #[i64 (checkP [x.1] []).1,.slice (some ⟨bp,if cap=1 then 0 else 1,none⟩) tl.length (cap - 1),i64 (checkP [x.1] []).2.2] 51 (0,0))::oSp b6 x.2.at_ a2 x.2.kids.length c2::(oRd b5 t p2::(M8++(K1++K2))++(if D 8=true then R else if D 5=true then [(qb13 b41)] else []))) (oFi b2 (if D 10=true then noF else x.1) (if D 10=true then none else a) (if D 10=true then 0 else c)::oEr b3 (if D 11=true then (checkP [x.1] []).1 else 0)::oIn b4 0::(b7,Obj.cells #[i64 (checkP [x.1] []).1,.slice (some ⟨bp,if cap=1 then 0 else 1,none⟩) tl.length (cap - 1),i64 (checkP [x.1] []).2.2] 51 (0,0))::oSp b6 x.2.at_ a2 x.2.kids.length c2::(oRd b5 t p2::(M8++(K1++K2))++([(qb6 bn x.2.at_ a2 x.2.kids.length c2)]++(if D 8=true then R else if D 5=true then [(qb13 b41)] else []))))),rfl,us h2,us h3,us h4,us e28,us e30,us e31,us e35,ue m8,fun h=>by simp[n9] at h,ue m11,fun h=>by simp[n12] at h,⟨bn,b41,za,zc,R,fun _=>⟨by simp[upd],hbn⟩,ud d5,ud d8,fun h=>by simp[n9] at h,by simp[hD,n9,n12]⟩⟩
   ·have n8:D 8=false:=bf (m8) hD
    have n9:D 9=false:=bf ((fun h=>(m9 h).2)) n8
    have n12:D 12=false:=bf ((fun h=>(m12 h).1)) n9
    simp (disch:=omega) only[push_cast,qE,h2,h3,h4,e28,e30,e31,e35,hD,n8,n9,n12,Bool.false_eq_true,if_false,if_true,List.append_nil,List.nil_append]
    refine bs_49_1 (newI fun bn hbn hnn=>?_)
    simp (disch:=omega) only[push_cast,qE,h2,h3,h4,e28,e30,e31,e35,hD,n8,n9,n12,Bool.false_eq_true,if_false,if_true,List.append_nil,List.nil_append]
    refine ⟨oFi b2 (if D 10=true then noF else x.1) (if D 10=true then none else a) (if D 10=true then 0 else c)::oEr b3 (if D 11=true then (checkP [x.1] []).1 else 0)::oIn b4 0::(b7,Obj.cells #[i64 (checkP [x.1] []).1,.slice (some ⟨bp,if cap=1 then 0 else 1,none⟩) tl.length (cap - 1),i64 (checkP [x.1] []).2.2] 51 (0,0))::oSp b6 x.2.at_ a2 x.2.kids.length c2::(oRd b5 t p2::(M8++(K1++K2))++((if D 4=true then [(qb6 b40 x.2.at_ a2 x.2.kids.length c2)] else [])++[(qb13 bn)])),fun w hw=>hw.perm (pC:List.Perm ((qb13 bn)::oFi b2 (if D 10=true then noF else x.1) (if D 10=true then none else a) (if D 10=true then 0 else c)::oEr b3 (if D 11=true then (checkP [x.1] []).1 else 0)::oIn b4 0::(b7,Obj.cells #[i64 (checkP [x.1] []).1,.slice (some ⟨bp,if cap=1 then 0 else 1,none⟩) tl.length (cap - 1),i64 (checkP [x.1] []).2.2] 51 (0,0))::oSp b6 x.2.at_ a2 x.2.kids.length c2::(oRd b5 t p2::(M8++(K1++K2))++(if D 4=true then [(qb6 b40 x.2.at_ a2 x.2.kids.length c2)] else []))) (oFi b2 (if D 10=true then noF else x.1) (if D 10=true then none else a) (if D 10=true then 0 else c)::oEr b3 (if D 11=true then (checkP [x.1] []).1 else 0)::oIn b4 0::(b7,Obj.cells #[i64 (checkP [x.1] []).1,.slice (some ⟨bp,if cap=1 then 0 else 1,none⟩) tl.length (cap - 1),i64 (checkP [x.1] []).2.2] 51 (0,0))::oSp b6 x.2.at_ a2 x.2.kids.length c2::(oRd b5 t p2::(M8++(K1++K2))++((if D 4=true then [(qb6 b40 x.2.at_ a2 x.2.kids.length c2)] else [])++[(qb13 bn)])))),rfl,us h2,us h3,us h4,us e28,us e30,us e31,us e35,fun h=>by simp[n8] at h,fun h=>by simp[n9] at h,ue m11,fun h=>by simp[n12] at h,⟨b40,bn,za,zc,R,ud d4,fun _=>⟨by simp[upd],hbn⟩,fun h=>by simp[n8] at h,fun h=>by simp[n9] at h,by simp[hD,n8,n9,n12]⟩⟩
   ·have y5:=hdep
    have n9:D 9=false:=bf ((fun h=>(m9 h).2)) hD
    have n12:D 12=false:=bf ((fun h=>(m12 h).1)) n9
    have g5:=d5 y5
    simp (disch:=omega) only[push_cast,qE,g5.1,h2,h3,h4,e28,e30,e31,e35,hD,n9,n12,y5,Bool.false_eq_true,if_false,if_true,List.append_nil,List.nil_append]
    have hrow41:RowO w 3 1 [(qb13 b41)] [] (.slice (some ⟨b41,0,none⟩) 1 1) 1 [i64 0]:=⟨rfl,.inr ⟨b41,1,[i64 0],rfl,rfl,g5.2,Nat.le_refl _,by simp only[maxLen]; omega,rfl,rfl⟩⟩
    refine valX_weak (L':=[(qb13 b41)]++(oFi b2 (if D 10=true then noF else x.1) (if D 10=true then none else a) (if D 10=true then 0 else c)::oEr b3 (if D 11=true then (checkP [x.1] []).1 else 0)::oIn b4 0::(b7,Obj.cells #[i64 (checkP [x.1] []).1,.slice (some ⟨bp,if cap=1 then 0 else 1,none⟩) tl.length (cap - 1),i64 (checkP [x.1] []).2.2] 51 (0,0))::oSp b6 x.2.at_ a2 x.2.kids.length c2::(oRd b5 t p2::(M8++(K1++K2))++(if D 4=true then [(qb6 b40 x.2.at_ a2 x.2.kids.length c2)] else [])))) (fun w hw=>hw.perm (pC:List.Perm (oFi b2 (if D 10=true then noF else x.1) (if D 10=true then none else a) (if D 10=true then 0 else c)::oEr b3 (if D 11=true then (checkP [x.1] []).1 else 0)::oIn b4 0::(b7,Obj.cells #[i64 (checkP [x.1] []).1,.slice (some ⟨bp,if cap=1 then 0 else 1,none⟩) tl.length (cap - 1),i64 (checkP [x.1] []).2.2] 51 (0,0))::oSp b6 x.2.at_ a2 x.2.kids.length c2::(oRd b5 t p2::(M8++(K1++K2))++((if D 4=true then [(qb6 b40 x.2.at_ a2 x.2.kids.length c2)] else [])++[(qb13 b41)]))) ([(qb13 b41)]++(oFi b2 (if D 10=true then noF else x.1) (if D 10=true then none else a) (if D 10=true then 0 else c)::oEr b3 (if D 11=true then (checkP [x.1] []).1 else 0)::oIn b4 0::(b7,Obj.cells #[i64 (checkP [x.1] []).1,.slice (some ⟨bp,if cap=1 then 0 else 1,none⟩) tl.length (cap - 1),i64 (checkP [x.1] []).2.2] 51 (0,0))::oSp b6 x.2.at_ a2 x.2.kids.length c2::(oRd b5 t p2::(M8++(K1++K2))++(if D 4=true then [(qb6 b40 x.2.at_ a2 x.2.kids.length c2)] else [])))))) (appendI un_49 infoInt rfl (m:=tl.length) (news:=ints tl) (RowO.frame hrow41) (by simp[ints]) (fun w' hw'=>tail_src hw' (.tail _ (.tail _ (.tail _ (.tail _ (.tail _ (.tail _ (qL _ (.tail _ (qL _ hmp))))))))) hrp) (ints_one tl) (by simp only[maxLen]; omega) (by omega) (fun v5 L5 hro5 _=>?_))
    (refine Exists.elim (RowO.unframe hro5) (fun R7 hz=>?_); have ez:=hz.1; subst ez; have hR7:=hz.2; clear hz)
    have hR8:RowO w 3 1 R7 [] v5 (0::tl).length (ints (0::tl)):=hR7.cast (by simp only[qN]; omega) rfl
    clear hR7
    obtain ⟨za7,zc7,hv7⟩:=hR8.is_slice
    subst hv7
    simp (disch:=omega) only[push_cast,qE,h2,h3,h4,e28,e30,e31,e35,hD,n9,n12,y5,Bool.false_eq_true,if_false,if_true,List.append_nil,List.nil_append]
    refine ⟨oFi b2 (if D 10=true then noF else x.1) (if D 10=true then none else a) (if D 10=true then 0 else c)::oEr b3 (if D 11=true then (checkP [x.1] []).1 else 0)::oIn b4 0::(b7,Obj.cells #[i64 (checkP [x.1] []).1,.slice (some ⟨bp,if cap=1 then 0 else 1,none⟩) tl.length (cap - 1),i64 (checkP [x.1] []).2.2] 51 (0,0))::oSp b6 x.2.at_ a2 x.2.kids.length c2::(oRd b5 t p2::(M8++(K1++K2))++((if D 4=true then [(qb6 b40 x.2.at_ a2 x.2.kids.length c2)] else [])++R7)),fun w hw=>hw.perm (pC:List.Perm (R7++(oFi b2 (if D 10=true then noF else x.1) (if D 10=true then none else a) (if D 10=true then 0 else c)::oEr b3 (if D 11=true then (checkP [x.1] []).1 else 0)::oIn b4 0::(b7,Obj.cells #[i64 (checkP [x.1] []).1,.slice (some ⟨bp,if cap=1 then 0 else 1,none⟩) tl.length (cap - 1),i64 (checkP [x.1] []).2.2] 51 (0,0))::oSp b6 x.2.at_ a2 x.2.kids.length c2::(oRd b5 t p2::(M8++(K1++K2))++(if D 4=true then [(qb6 b40 x.2.at_ a2 x.2.kids.length c2)] else [])))) (oFi b2 (if D 10=true then noF else x.1) (if D 10=true then none else a) (if D 10=true then 0 else c)::oEr b3 (if D 11=true then (checkP [x.1] []).1 else 0)::oIn b4 0::(b7,Obj.cells #[i64 (checkP [x.1] []).1,.slice (some ⟨bp,if cap=1 then 0 else 1,none⟩) tl.length (cap - 1),i64 (checkP [x.1] []).2.2] 51 (0,0))::oSp b6 x.2.at_ a2 x.2.kids.length c2::(oRd b5 t p2::(M8++(K1++K2))++((if D 4=true then [(qb6 b40 x.2.at_ a2 x.2.kids.length c2)] else [])++R7)))),rfl,us h2,us h3,us h4,us e28,us e30,us e31,us e35,fun _=>by simp[hD,n9,n12,y5],fun h=>by simp[n9] at h,ue m11,fun h=>by simp[n12] at h,⟨b40,b41,za7,zc7,R7,ud d4,ud d5,fun _=>⟨by simp[upd],hR8⟩,fun h=>by simp[n9] at h,by simp[hD,n9,n12,y5]⟩⟩
   ·have y4:=hdep.1
    have y8:=hdep.2
    have y5:=m8 y8
    have n12:D 12=false:=bf ((fun h=>(m12 h).1)) hD
    have g4:=d4 y4
    have g8:=d8 y8
    have hO40:OwPS [x.2] ((qb6 b40 x.2.at_ a2 x.2.kids.length c2)::K2) (some ⟨b40,0,none⟩) 1:=(OwPS_iff _ _ _ _).2 (.inr ⟨b40,[i64 x.2.at_,.slice a2 x.2.kids.length c2],K2,rfl,rfl,Nat.le_refl _,by simp only[maxLen]; omega,by
     rw[List.take_of_length_le (by simp),OwPK]
     exact ⟨K2,[],a2,c2,[],by simp,rfl,hO2,by rw[OwPK]; exact ⟨rfl,rfl⟩⟩⟩)
    simp (disch:=omega) only[push_cast,qE,g4.1,g8.1,h2,h3,h4,e28,e30,e31,e35,hD,n12,y4,y8,y5,Bool.false_eq_true,if_false,if_true,List.append_nil,List.nil_append]
    refine callV en_40 (cIs (v:=i64 (foundP [x.2] (0::tl) 0)) (fun w' hw'=>found_walk w' ((qb6 b40 x.2.at_ a2 x.2.kids.length c2)::K2) (HasK.of_sy hw' (fun q hq=>by
     rcases List.mem_cons.1 hq with rfl|hq
     ·exact .tail _ (.tail _ (.tail _ (.tail _ (.tail _ (.tail _ (qR _ (.head _)))))))
     ·exact .tail _ (.tail _ (.tail _ (.tail _ (.tail _ (.tail _ (qL _ (qR _ (qR _ hq)))))))))) [x.2] (some ⟨b40,0,none⟩) 1 hO40 za (0::tl) zc (natsAt_rowO hw' (fun q hq=>.tail _ (.tail _ (.tail _ (.tail _ (.tail _ (.tail _ (qR _ (.tail _ hq)))))))) g8.2) (by simp only[qN]; omega) hok) ?_)
    simp (disch:=omega) only[push_cast,qE,h2,h3,h4,e28,e30,e31,e35,hD,n12,y4,y8,y5,Bool.false_eq_true,if_false,if_true,List.append_nil,List.nil_append]
    exact ⟨_,fun w hw=>hw,rfl,us h2,us h3,us h4,us e28,us e30,us e31,us e35,fun _=>by simp[hD,n12,y4,y8,y5],fun _=>by simp[hD,n12,y4,y8,y5],ue m11,fun h=>by simp[n12] at h,⟨b40,b41,za,zc,R,ud d4,ud d5,ud d8,fun _=>by simp[upd],by simp[hD,n12,y4,y8,y5]⟩⟩
   ·have n11:D 11=false:=bf (m11) hD
    have n12:D 12=false:=bf ((fun h=>(m12 h).2)) n11
    simp (disch:=omega) only[push_cast,qE,h2,h3,h4,e28,e30,e31,e35,hD,n11,n12,Bool.false_eq_true,if_false,if_true,List.append_nil,List.nil_append]
    refine stX 0 rfl Siz.eq rfl rfl (by simp[Value.oneCell',Fld.cells]) (by simp) ?_
    simp (disch:=omega) only[push_cast,qE,h2,h3,h4,e28,e30,e31,e35,hD,n11,n12,Bool.false_eq_true,if_false,if_true,List.append_nil,List.nil_append]
    refine ⟨oFi b2 noF none 0::oEr b3 0::oIn b4 0::(b7,Obj.cells #[i64 (checkP [x.1] []).1,.slice (some ⟨bp,if cap=1 then 0 else 1,none⟩) tl.length (cap - 1),i64 (checkP [x.1] []).2.2] 51 (0,0))::oSp b6 x.2.at_ a2 x.2.kids.length c2::(oRd b5 t p2::(M8++(K1++K2))++((if D 4=true then [(qb6 b40 x.2.at_ a2 x.2.kids.length c2)] else [])++(if D 8=true then R else if D 5=true then [(qb13 b41)] else []))),fun w hw=>hw,rfl,us h2,us h3,us h4,us e28,us e30,us e31,us e35,ue m8,ue m9,fun h=>by simp[n11] at h,fun h=>by simp[n12] at h,⟨b40,b41,za,zc,R,ud d4,ud d5,ud d8,ud d9,by simp[hD,n11,n12]⟩⟩
   ·have y10:=hdep
    have n12:D 12=false:=bf ((fun h=>(m12 h).2)) hD
    simp (disch:=omega) only[push_cast,qE,h2,h3,h4,e28,e30,e31,e35,hD,n12,y10,Bool.false_eq_true,if_false,if_true,List.append_nil,List.nil_append]
    refine sXa 1 rfl Siz.eq rfl rfl ?_
    simp (disch:=omega) only[push_cast,qE,h2,h3,h4,e28,e30,e31,e35,hD,n12,y10,Bool.false_eq_true,if_false,if_true,List.append_nil,List.nil_append]
    refine ⟨oFi b2 noF none 0::oEr b3 (checkP [x.1] []).1::oIn b4 0::(b7,Obj.cells #[i64 (checkP [x.1] []).1,.slice (some ⟨bp,if cap=1 then 0 else 1,none⟩) tl.length (cap - 1),i64 (checkP [x.1] []).2.2] 51 (0,0))::oSp b6 x.2.at_ a2 x.2.kids.length c2::(oRd b5 t p2::(M8++(K1++K2))++((if D 4=true then [(qb6 b40 x.2.at_ a2 x.2.kids.length c2)] else [])++(if D 8=true then R else if D 5=true then [(qb13 b41)] else []))),fun w hw=>hw,rfl,us h2,us h3,us h4,us e28,us e30,us e31,us e35,ue m8,ue m9,fun _=>by simp[hD,n12,y10],fun h=>by simp[n12] at h,⟨b40,b41,za,zc,R,ud d4,ud d5,ud d8,ud d9,by simp[hD,n12,y10]⟩⟩
   ·have y9:=hdep.1
    have y11:=hdep.2
    have y10:=m11 y11
    have y4:=(m9 y9).1
    have y8:=(m9 y9).2
    have y5:=m8 y8
    have g9:=d9 y9
    simp (disch:=omega) only[push_cast,qE,g9,h2,h3,h4,e28,e30,e31,e35,hD,y9,y11,y10,y4,y8,y5,Bool.false_eq_true,if_false,if_true,List.append_nil,List.nil_append]
    refine sXa 2 rfl Siz.eq rfl rfl ?_
    simp (disch:=omega) only[push_cast,qE,h2,h3,h4,e28,e30,e31,e35,hD,y9,y11,y10,y4,y8,y5,Bool.false_eq_true,if_false,if_true,List.append_nil,List.nil_append]
    refine ⟨oFi b2 noF none 0::oEr b3 (checkP [x.1] []).1::oIn b4 (foundP [x.2] (0::tl) 0:Int)::(b7,Obj.cells #[i64 (checkP [x.1] []).1,.slice (some ⟨bp,if cap=1 then 0 else 1,none⟩) tl.length (cap - 1),i64 (checkP [x.1] []).2.2] 51 (0,0))::oSp b6 x.2.at_ a2 x.2.kids.length c2::(oRd b5 t p2::(M8++(K1++K2))++([(qb6 b40 x.2.at_ a2 x.2.kids.length c2)]++R)),fun w hw=>hw,rfl,us h2,us h3,us h4,us e28,us e30,us e31,us e35,fun _=>by simp[hD,y9,y11,y10,y4,y8,y5],fun _=>by simp[hD,y9,y11,y10,y4,y8,y5],fun _=>by simp[hD,y9,y11,y10,y4,y8,y5],fun _=>by simp[hD,y9,y11,y10,y4,y8,y5],⟨b40,b41,za,zc,R,ud d4,ud d5,ud d8,ud d9,by simp[hD,y9,y11,y10,y4,y8,y5]⟩⟩
  ·intro D e ds L hD hI
   obtain ⟨rfl,h2,h3,h4,e28,e30,e31,e35,m8,m9,m11,m12,b40,b41,za,zc,R,d4,d5,d8,d9,rfl⟩:=hI
   have y4:=hD 4 (by simp)
   have y5:=hD 5 (by simp)
   have y8:=hD 8 (by simp)
   have y10:=hD 10 (by simp)
   have y11:=hD 11 (by simp)
   have y12:=hD 12 (by simp)
   have g8:=(d8 y8).2
   have hR7n:∀ b∈R,w.heap.size≤b.1:=RowO.new g8 (by simp)
   simp only[y4,y5,y8,y10,y11,y12,if_true]
   simp (disch:=omega) only[push_cast,qE,h2,h3,h4]
   refine .inr ⟨_,_,rfl,en_47,fun w' hw'=>(fieldC_idle w w' _ hw' _ _ _).mono ?_⟩
   rintro e1 u1 w1 ⟨rfl,rfl,hw1⟩
   refine ⟨rfl,rfl,_,hw1,?_⟩
   try simp (disch:=omega) only[push_cast,qE,h2,h3,h4]
   refine lAg Shp.eq mem0 rfl rfl ?_
   simp (disch:=omega) only[push_cast,qE,h2,h3,h4]
   refine lOn Shp.eq mem1 rfl ?_
   simp (disch:=omega) only[push_cast,qE,h2,h3,h4]
   refine lOn Shp.eq mem2 rfl ?_
   simp (disch:=omega) only[push_cast,qE,h2,h3,h4]
   rw[hr8]
   exact fun w2 hw2=>⟨_,[],rfl,hw2.end (fun b hb=>by
    refine hbd D b40 b41 R (oFi b2 noF none 0).2 (oEr b3 (checkP [x.1] []).1).2 (oIn b4 (foundP [x.2] (0::tl) 0:Int)).2 (fun h=>(d4 h).2) (fun h=>(d5 h).2) (fun _=>hR7n) b ?_
    simp only[y4,y5,y8,if_true]
    exact hb),by simp,none,0,[],rfl,own_noF,by simp⟩
  ·refine sp ?_
   refine lOn Shp.eq mem0 rfl ?_
   refine sp ?_
   refine lAg Shp.eq mem1 rfl rfl ?_
   refine sp ?_
   refine lOn Shp.eq mem0 rfl ?_
   refine sp ?_
   exact ⟨rfl,rfl,rfl,rfl,rfl,rfl,rfl,rfl,fun h=>by simp at h,fun h=>by simp at h,fun h=>by simp at h,fun h=>by simp at h,⟨0,0,none,0,[],fun h=>by simp at h,fun h=>by simp at h,fun h=>by simp at h,fun h=>by simp at h,by simp⟩⟩
 refine sp ?_
 refine lAg Shp.eq (.tail _ (qR _ mem1)) rfl rfl ?_
 refine sp ?_
 refine storeX_weak (L':=oFi b2 x.1 a c::oEr b3 0::oIn b4 0::(b7,Obj.cells #[i64 (checkP [x.1] []).1,.slice pa (checkP [x.1] []).2.1.tail.length pc,i64 (checkP [x.1] []).2.2] 51 (0,0))::oRd b5 t p2::oSp b6 x.2.at_ a2 x.2.kids.length c2::((K1++K2)++M8)) (fun w hw=>hw.perm (?_:List.Perm ((b7,Obj.cells #[i64 (checkP [x.1] []).1,.slice pa (checkP [x.1] []).2.1.tail.length pc,i64 (checkP [x.1] []).2.2] 51 (0,0))::(M8++(oRd b5 t p2::oFi b2 x.1 a c::oSp b6 x.2.at_ a2 x.2.kids.length c2::oIn b4 0::oEr b3 0::(K1++K2)))) _)) (sXa 0 rfl Siz.eq rfl rfl ?_)
 ·exact pC
 refine sp ?_
 refine sXa 1 rfl Siz.eq rfl rfl ?_
 refine sp ?_
 refine sXa 2 rfl Siz.eq rfl rfl ?_
 refine sp ?_
 have hr0:parseF t=⟨x.1,0,0⟩:=by
  have hc:(checkP [x.1] []).1=0:=by omega
  unfold parseF
  rw[if_neg (by omega),pOne,hr,PR.and_ok,← hq,pEnd_ok hr2]
  simp only
  rw[if_pos hc]
 refine .inr ⟨_,_,rfl,en_47,fun w' hw'=>(fieldC_idle w w' _ hw' _ _ _).mono ?_⟩
 rintro e1 u1 w1 ⟨rfl,rfl,hw1⟩
 refine ⟨rfl,rfl,_,hw1,?_⟩
 try simp (disch:=omega) only[push_cast,qE]
 refine lAg Shp.eq mem0 rfl rfl ?_
 refine sp ?_
 refine lOn Shp.eq mem1 rfl ?_
 refine sp ?_
 refine lOn Shp.eq mem2 rfl ?_
 refine sp ?_
 rw[hr0]
 exact fun w2 hw2=>⟨_,_,rfl,hw2,fun b hb=>by
  simp only[qM,qP] at hb hK
  rcases hb with rfl|rfl|rfl|rfl|rfl|rfl|hb|hb
  ·exact hb2
  ·exact hb3
  ·exact hb4
  ·exact hb7
  ·exact hb5
  ·exact hb6
  ·exact hK b hb
  ·exact hM8 b hb,a,c,K1,rfl,hO1,by repeat (first|exact List.sublist_append_left _ _|exact (List.sublist_append_left _ _).trans (List.sublist_append_left _ _)|refine List.Sublist.cons _ ?_)⟩
end Go.Proofs.YtdmdgkpjjpijdaaGreatDoor
