/- YtilejcofleeeiaaGreatDoor: walks, part 270: the reference's reader: any value. -/
import Derived.Test.YtilejcofleeeiaaGreatDoorW261
import Derived.Test.YtilejcofleeeiaaGreatDoorW264
import Derived.Test.YtilejcofleeeiaaGreatDoorW237
import Derived.Test.YtilejcofleeeiaaGreatDoorW238
namespace Go.Proofs.YtilejcofleeeiaaGreatDoor
open Go Go.K
open Nat renaming reduceEqDiff → qE
open Go.Value renaming oneCell' → qC
set_option maxRecDepth 100000
set_option linter.unusedVariables false
set_option linter.unusedSimpArgs false
set_option maxHeartbeats 4000000
structure VaA (w0:World) (rb b3 b4 b5:Nat) (L0:Own) (ex:Env→Prop) (wb:World) (e:Env) (ds:List Deferred) (L:Own):Prop where
 hw:wb=w0
 hds:ds=[]
 o:L=L0
 h0:e 0=pPs rb
 h3:e 3=.pointer (some ⟨b3,0,none⟩)
 h4:e 4=.pointer (some ⟨b4,0,none⟩)
 h5:e 5=.pointer (some ⟨b5,0,none⟩)
 hex:ex e
def ChOK (d:Nat):Prop:=∀ (wb w:World) (lo rb:Nat) (s:List UInt8) (p:Nat) (M:Own) (ind:Bool) (f:Fld) (a:Option Addr) (c:Nat),lo≤wb.heap.size→okT (d+1) ind f→f.k=18→FlAt wb lo f a c→s.length≤65536→p≤s.length→wb.heap.size≤rb→(∀ b∈M,wb.heap.size≤b.1)→Sy wb (oRd rb s p 0 0::M) w →
 Calls Tryz.prog 63 #[pPs rb,.agg (f.tcells a c).toArray] w (RdR wb rb s M (choiceV s (readV s d) f.sub p) VlS VfS)
theorem valueR_step (d:Nat) (hP:RvOK d) (hC:ChOK d):RvOK (d+1):=by
 intro wb w lo rb s p M ind f a c hlo hok hA hs hp hrb hM hw
 obtain ⟨row,hrow⟩:∃ row,rowP smallB s p=row:=⟨_,rfl⟩
 have hrun:runP smallB s p=p+row.length:=by rw[← hrow]; rfl
 have hrl:p+row.length≤s.length:=by rw[← hrun]; exact runP_le hp
 refine enterB (args:=[pPs rb,.agg (f.cells a c).toArray]) Tryz.func29 rfl Tryz.ntmps29 (congrArg Array.toList Tryz.results29) (by kernel_rfl) (by simp) hw ?_
 simp (disch:=omega) only[push_cast,qE,Fld.cells]
 refine newI (fun b3 hb3 hn3=>?_)
 simp (disch:=omega) only[push_cast,qE,Fld.cells]
 refine newI (fun b4 hb4 hn4=>?_)
 simp (disch:=omega) only[push_cast,qE,Fld.cells]
 refine lAg Shp.eq mem1 rfl rfl ?_
 refine sp ?_
 refine newI (fun b5 hb5 hn5=>?_)
 refine sp ?_
 refine sXa 0 rfl Siz.eq rfl rfl ?_
 refine sp ?_
 obtain ⟨o3,ho3⟩:∃ o,o=(qb0 b3 f a c):=⟨_,rfl⟩
 obtain ⟨o4,ho4⟩:∃ o,o=(qb2 b4):=⟨_,rfl⟩
 obtain ⟨o5,ho5⟩:∃ o,o=(qb1 b5 f a c):=⟨_,rfl⟩
 refine lOn Shp.eq (.tail _ (.tail _ (.tail _ (.head _)))) rfl ?_
 refine sp ?_
 refine cutV (VaA wb rb b3 b4 b5 (o5::o4::o3::oRd rb s p 0 0::M) (fun _=>True)) ?_ ?_
 ·rw[Vc]
  refine sp ?_
  refine cdD (fun h=>absurd rfl h) (fun _=>?_)
  refine sp ?_
  exact ⟨rfl,rfl,by rw[ho3,ho4,ho5],rfl,rfl,rfl,rfl,trivial⟩
 clear hw hn3 hn4 hn5
 rintro wb e ds L ⟨rfl,rfl,rfl,h0,h3,h4,h5,_⟩
 have mrd:∀ {o:Nat×Obj},o∈o5::o4::o3::o::M:=.tail _ (.tail _ (.tail _ (.head _)))
 have m5:∀ {o:Nat×Obj},(qb1 b5 f a c)∈o5::o4::o3::o::M:=fun {o}=>by first|(rw[← ho5]; exact mem0)|(subst ho5; exact mem0)
 have m3:∀ {o:Nat×Obj},(qb0 b3 f a c)∈o5::o4::o3::o::M:=fun {o}=>by first|(rw[← ho3]; exact mem2)|(subst ho3; exact mem2)
 have hMo:∀ b∈o5::o4::o3::M,wb.heap.size≤b.1:=fun b hb=>by
  simp only[List.mem_cons] at hb
  rcases hb with rfl|rfl|rfl|hb
  ·rw[ho5]; exact hb5
  ·rw[ho4]; exact hb4
  ·rw[ho3]; exact hb3
  ·exact hM b hb
 have hnew:∀ (q:Nat) (er:Int) (bd:Nat),∀ b∈o5::o4::o3::oRd rb s q er bd::M,wb.heap.size≤b.1:=fun q er bd b hb=>by
  simp only[List.mem_cons] at hb
  rcases hb with rfl|rfl|rfl|rfl|hb
  ·rw[ho5]; exact hb5
  ·rw[ho4]; exact hb4
  ·rw[ho3]; exact hb3
  ·exact hrb
  ·exact hM b hb
 obtain ⟨op,hop⟩:∃ op,opensB s (p+row.length)=op:=⟨_,rfl⟩
 rw[V_seq]
 refine cutV (VaA wb rb b3 b4 b5 (o5::o4::o3::oRd rb s p 0 0::M) (fun e=>e 6=str row)) ?_ ?_
 ·simp (disch:=omega) only[push_cast,qE,h0]
  refine callV en_56 (cIs (v:=str row) (fun w' hw'=>by rw[← hrow]; exact rowR_walk w' rb s p 0 0 hs hp (At.of_own hw' mrd rfl)) ?_)
  refine sp ?_
  exact ⟨rfl,rfl,rfl,h0,h3,h4,h5,rfl⟩
 clear h0 h3 h4 h5 e
 rintro wb e ds L ⟨rfl,rfl,rfl,h0,h3,h4,h5,h6⟩
 rw[V_seq]
 refine cutV (VaA wb rb b3 b4 b5 (o5::o4::o3::oRd rb s p 0 0::M) (fun e=>e 6=str row∧e 7=.bool op)) ?_ ?_
 ·simp (disch:=omega) only[push_cast,qE,h0,h6]
  refine lOn Shp.eq mrd rfl ?_
  simp (disch:=omega) only[push_cast,qE,h0,h6]
  refine callV en_57 (cIs (v:=.bool op) (fun w' hw'=>by
   have h:=goesOn_walk w' rb s p (p+row.length) 0 0 (At.of_own hw' mrd rfl)
   rw[← hrun,goC_opens,hrun,hop,Int.natCast_add] at h
   exact h) ?_)
  refine sp ?_
  exact ⟨rfl,rfl,rfl,h0,h3,h4,h5,h6,rfl⟩
 clear h0 h3 h4 h5 h6 e
 rintro wb e ds L ⟨rfl,rfl,rfl,h0,h3,h4,h5,h6,h7⟩
 rw[V_seq]
 refine cutV (VaA wb rb b3 b4 b5 (o5::o4::o3::oRd rb s p 0 0::M) (fun e=>e 6=str row∧e 7=.bool op∧e 8=.bool (letsP f))) ?_ ?_
 ·simp (disch:=omega) only[push_cast,qE,h3]
  refine lAg Shp.eq m3 rfl rfl ?_
  refine sp ?_
  refine callV en_58 (cIs (fun w' hw'=>nullable_walk (d+1) w' lo f a c (Nat.le_trans hlo hw'.size) hok.okD (hA.sy hlo hw' (hnew _ _ _))) ?_)
  refine sp ?_
  exact ⟨rfl,rfl,rfl,h0,h3,h4,h5,h6,h7,rfl⟩
 clear h0 h3 h4 h5 h6 h7 e
 rintro wb e ds L ⟨rfl,rfl,rfl,h0,h3,h4,h5,h6,h7,h8⟩
 rw[V_seq,V_seq]
 refine cutV (VaA wb rb b3 b4 b5 (o5::o4::o3::oRd rb s p 0 0::M) (fun e=>e 6=str row∧e 43=.bool (decide (letsP f=true∧row=nullT∧op=false)))) ?_ ?_
 ·simp (disch:=omega) only[push_cast,qE,h6,h7,h8]
  cases hlet:letsP f with
  | false =>
   simp (disch:=omega) only[push_cast,qE,h6,h7]
   exact ⟨rfl,rfl,rfl,h0,h3,h4,h5,h6,is_f (by simp)⟩
  | true =>
   simp (disch:=omega) only[push_cast,qE,h6,h7]
   refine gT rfl (fun hnl=>?_) (fun hnl=>?_)
   ·simp (disch:=omega) only[push_cast,qE,h6,h7]
    refine ⟨rfl,rfl,rfl,h0,h3,h4,h5,h6,?_⟩
    have hnl':row=nullT:=hnl
    cases op with
    | false=>first|exact is_t (by simp[hnl'])|exact is_t hnl'
    | true=>first|exact is_f (by simp)|rfl
   ·simp (disch:=omega) only[push_cast,qE,h6,h7]
    exact ⟨rfl,rfl,rfl,h0,h3,h4,h5,h6,is_f (fun h=>hnl (by first|exact h.2.1|exact h.1|exact h))⟩
 clear h0 h3 h4 h5 h6 h7 h8 e
 rintro wb e ds L ⟨rfl,rfl,rfl,h0,h3,h4,h5,h6,h43⟩
 have fin:∀ (q:Nat) (er:Int) (bd:Nat) (K:Own) (o:Obj) (w':World),Sy wb ((b4,o)::oRd rb s q er bd::(K++(o5::o3::M))) w'→Sy wb (oRd rb s q er bd::(K++M)) w':=fun q er bd K o w' hw'=>by
  have h1:Sy wb ([(b4,o),o5,o3]++(oRd rb s q er bd::(K++M))) w':=hw'.perm (pC)
  exact h1.left (fun b hb=>by
   simp only[List.mem_cons,List.mem_nil_iff,or_false] at hb
   rcases hb with rfl|rfl|rfl
   ·exact hb4
   ·rw[ho5]; exact hb5
   ·rw[ho3]; exact hb3)
 have tord:∀ {q:Nat} {er:Int} {bd:Nat} {w':World},Sy wb (o5::o4::o3::oRd rb s q er bd::M) w'→Sy wb (oRd rb s q er bd::(o5::o4::o3::M)) w':=fun hw'=>hw'.perm (pC)
 have bk:∀ (q:Nat) (er:Int) (bd:Nat) (K:Own) (w':World),Sy wb (oRd rb s q er bd::(K++(o5::o4::o3::M))) w'→Sy wb ((qb2 b4)::oRd rb s q er bd::(K++(o5::o3::M))) w':=fun q er bd K w' hw'=>by
  rw[← ho4]
  exact hw'.perm (pC)
 refine cutV (VaA wb rb b3 b4 b5 (o5::o4::o3::oRd rb s p 0 0::M) (fun e=>e 6=str row∧¬ (letsP f=true∧row=nullT∧op=false))) ?_ ?_
 ·rw[Vc]
  simp (disch:=omega) only[push_cast,qE,h43]
  refine cdD (fun hnu=>?_) (fun hnu=>?_)
  ·have hr4:row.length=4:=by rw[hnu.2.1]; rfl
   have hop4:opensB s (p+4)=false:=by rw[← hr4,hop]; exact hnu.2.2
   simp (disch:=omega) only[push_cast,qE,h0]
   refine lOn Shp.eq mrd rfl ?_
   simp (disch:=omega) only[push_cast,qE,h0]
   refine sXa 3 rfl Siz.eq rfl rfl ?_
   simp (disch:=omega) only[push_cast,qE,h4]
   refine stX 1 (by rw[ho4]; rfl) Siz.eq rfl rfl (by simp[qC]) (by simp) ?_
   simp (disch:=omega) only[push_cast,qE,h4]
   refine lAg Shp.eq mem1 rfl rfl ?_
   refine sp ?_
   refine fun w' hw'=>RdR.good (x:=.mk true 0 [] []) (q:=p+4) _ [] (by rw[readV,if_pos ⟨hnu.1,by rw[hrow]; exact hnu.2.1,hop4⟩]) (by omega) ⟨_,_,_,ZeV.leafV (by simp) (by decide),rfl,rfl⟩ (by simp) (fin _ _ _ [] (Obj.cells #[.bool true,i64 0,str [],.slice none 0 0] 29 (0,0)) w' ?_)
   have h1:Sy wb (o5::(b4,Obj.cells #[.bool true,i64 0,str [],.slice none 0 0] 29 (0,0))::o3::oRd rb s (p+4) 0 0::M) w':=by rw[oRd,Int.natCast_add]; exact hw'
   exact h1.perm (pC)
  ·refine sp ?_
   exact ⟨rfl,rfl,rfl,h0,h3,h4,h5,h6,hnu⟩
 clear h0 h3 h4 h5 h6 h43 e
 rintro wb e ds L ⟨rfl,rfl,rfl,h0,h3,h4,h5,h6,hnn⟩
 have hnl:¬ (letsP f=true∧rowP smallB s p=nullT∧opensB s (p+4)=false):=fun ⟨h1,h2,h3⟩=>hnn ⟨h1,by rw[← hrow]; exact h2,by rw[← hop,show row.length=4 by rw[← hrow,h2]; rfl]; exact h3⟩
 have failing:readV s (d+1) f p=.no 8 p→∀ {v:Value} {w':World},v=zeroA→Sy wb ((qb2 b4)::oRd rb s p 8 p::([]++(o5::o3::M))) w'→RdR wb rb s M (readV s (d+1) f p) VlS VfS (.returned v) w':=fun hx {v w'} hv hw'=>by
  subst hv
  exact RdR.bad zeroA [] hx (by decide) ⟨.mk false 0 [] [],none,0,rfl⟩ (by simp) (fin _ _ _ [] _ w' hw')
 simp (disch:=omega) only[push_cast,qE,h5]
 refine lOn Shp.eq m5 rfl ?_
 simp (disch:=omega) only[push_cast,qE,h5]
 by_cases hnum:2≤f.k∧f.k≤11
 ·have hx:readV s (d+1) f p=match readN f.k row with|some n=>.ok (.mk false n [] []) (p+row.length)|none=>.no 8 p:=by
   rw[readV,if_neg hnl,if_neg (by omega),if_neg (by omega),if_neg (by omega),if_neg (by omega),if_neg (by omega),if_neg (by omega),if_neg (by omega),hrow,hrun]
   rfl
  refine callV en_59 (cIs (v:=.bool true) (fun w' hw'=>by
   have h:=number_k_walk w' f.k
   rw[decide_eq_true hnum.1,decide_eq_true hnum.2] at h
   exact h) ?_)
  refine sp ?_
  rw[Vb]
  refine sp ?_
  rw[Vc]
  simp (disch:=omega) only[push_cast,qE,h5,h6]
  refine lOn Shp.eq m5 rfl ?_
  simp (disch:=omega) only[push_cast,qE,h5,h6]
  refine callV en_60 (callX_ex (fun w' hw'=>readNum_walk w' f.k hnum row (by omega)) (fun v hv=>?_))
  obtain ⟨n,b,rfl,n1,n2⟩:=hv
  refine sp ?_
  rw[Vc]
  refine sp ?_
  cases b with
  | false =>
   simp (disch:=omega) only[push_cast,qE,Bool.not_false,h0]
   refine lOn Shp.eq mrd rfl ?_
   simp (disch:=omega) only[push_cast,qE,h0]
   refine callV en_30 (callX_own (S:=fun v L'=>v=.tuple #[]∧L'=o4::oRd rb s p 8 p::([]++(o5::o3::M))) (fun w' hw'=>(failR_ok wb w' rb s p 0 (o5::o4::o3::M) 8 p (tord hw')).mono fun e w2 ⟨v,L',k1,k2,k3,k4⟩=>⟨v,_,k1,(by rw[k4] at k2; exact k2.perm (pC)),k3,rfl⟩) (fun v L' hv=>?_))
   obtain ⟨rfl,rfl⟩:=hv
   simp (disch:=omega) only[push_cast,qE,h4]
   refine stX 0 (by rw[ho4]; rfl) Siz.eq rfl rfl (by simp[qC]) (by simp) ?_
   simp (disch:=omega) only[push_cast,qE,h4]
   refine lAg Shp.eq mem0 rfl rfl ?_
   refine sp ?_
   exact fun w' hw'=>failing (by rw[hx,n2 rfl]) rfl hw'
  | true =>
   have hrd:=n1 rfl
   have hnr:=(readN_some hrd).1.1
   simp (disch:=omega) only[push_cast,qE,Bool.not_true,h0]
   refine lOn Shp.eq mrd rfl ?_
   simp (disch:=omega) only[push_cast,qE,h0,h6]
   refine sXa 3 rfl Siz.eq rfl rfl ?_
   simp (disch:=omega) only[push_cast,qE,h4]
   refine stX 1 (by rw[ho4]; rfl) Siz.eq rfl rfl (by simp[qC]) (by simp) ?_
   simp (disch:=omega) only[push_cast,qE,h4]
   refine lAg Shp.eq mem1 rfl rfl ?_
   refine sp ?_
   refine fun w' hw'=>RdR.good (x:=.mk false n [] []) (q:=p+row.length) _ [] (by rw[hx,hrd]) hrl ⟨_,_,_,ZeV.leafV (by simp) hnr,rfl,rfl⟩ (by simp) (fin _ _ _ [] (Obj.cells #[.bool false,i64 n,str [],.slice none 0 0] 29 (0,0)) w' ?_)
   have h1:Sy wb (o5::(b4,Obj.cells #[.bool false,i64 n,str [],.slice none 0 0] 29 (0,0))::o3::oRd rb s (p+row.length) 0 0::M) w':=by rw[oRd,Int.natCast_add]; exact hw'
   exact h1.perm (pC)
 refine callV en_59 (cIs (v:=.bool false) (fun w' hw'=>by
  have h:=number_k_walk w' f.k
  rw[show (decide (2≤f.k) && decide (f.k≤11))=false by rw[Bool.and_eq_false_iff,decide_eq_false_iff_not,decide_eq_false_iff_not]; omega] at h
  exact h) ?_)
 refine sp ?_
 rw[Vb]
 refine sp ?_
 rw[Vc]
 simp (disch:=omega) only[push_cast,qE,h5]
 have hk20:f.k=1∨12≤f.k∧f.k≤20:=by
  have h1:=hok.1.1.1
  omega
 by_cases hkA:f.k=19∨f.k=20
 ·obtain ⟨g,hg⟩:∃ g,f.sub[0]?=some g:=by
   have h1:=hok.1.1.2.2.2.1
   exact ⟨_,List.getElem?_eq_getElem (by rcases hkA with hk|hk<;>rw[hk] at h1<;>simp[leastK] at h1<;>omega)⟩
  have hx:readV s (d+1) f p=readV s d g p:=by rw[readV,if_neg hnl,if_pos hkA,hg]
  have hpos:0 < f.sub.length:=(List.getElem?_eq_some_iff.1 hg).1
  obtain ⟨gb,goff,ga,gc,rfl,g1,g2,g3⟩:=hA.get hg
  rw[Nat.zero_mul,Nat.add_zero] at g2
  rcases hkA with hk|hk
  all_goals
   try simp (disch:=omega) only[push_cast,qE,h5,hk,decide_true,decide_false,Int.reduceEq]
   repeat (first|(refine lOn Shp.eq m5 rfl ?_; simp (disch:=omega) only[push_cast,qE,h5,hk,decide_true,decide_false,Int.reduceEq])|(rw[Vc]; simp (disch:=omega) only[push_cast,qE,h5,hk,decide_true,decide_false,Int.reduceEq]))
   try simp (disch:=omega) only[push_cast,qE,h0,h5]
   refine ldAggF Shp.eq g2 rfl (out_of (fun b hb=>Nat.lt_of_lt_of_le (Nat.lt_of_lt_of_le g1 hlo) (hnew p 0 0 b hb))) ?_
   simp (disch:=omega) only[push_cast,qE,h0,Fld.cells]
   refine callV en_29 (callX_rw (M:=o5::o4::o3::M) (fun p e b K=>o4::oRd rb s p e b::(K++(o5::o3::M))) (fun w' hw'=>hP wb w' lo rb s p (o5::o4::o3::M) _ g ga gc hlo (hok.2 g (List.mem_of_getElem? hg)) g3 hs hp hrb hMo (tord hw')) (fun p e b K w hw=>hw.perm (pC)) (fun x q v K hr hq hS hK=>?_) (fun er q p1 v K hr he hF hK=>?_))
   ·obtain ⟨its2,a2,c2,hv,rfl,rfl⟩:=hS
    simp (disch:=omega) only[push_cast,qE,h4,Vl.cells]
    refine stX 0 (by rw[ho4]; rfl) Siz.eq rfl rfl (by simp[qC]) (by simp) ?_
    simp (disch:=omega) only[push_cast,qE,h4]
    refine lAg Shp.eq mem0 rfl rfl ?_
    refine sp ?_
    exact fun w' hw'=>RdR.good _ (ownR its2) (hx.trans hr) hq ⟨its2,a2,c2,hv,rfl,rfl⟩ hK (fin _ _ _ _ _ w' hw')
   ·obtain ⟨y,a2,c2,rfl⟩:=hF
    simp (disch:=omega) only[push_cast,qE,h4,Vl.cells]
    refine stX 0 (by rw[ho4]; rfl) Siz.eq rfl rfl (by simp[qC]) (by simp) ?_
    simp (disch:=omega) only[push_cast,qE,h4]
    refine lAg Shp.eq mem0 rfl rfl ?_
    refine sp ?_
    exact fun w' hw'=>RdR.bad _ K (hx.trans hr) he ⟨y,a2,c2,rfl⟩ hK (fin _ _ _ _ _ w' hw')
 by_cases hk:f.k=12
 ·have hx:readV s (d+1) f p=(quoteV s p).and fun t r=>.ok (.mk false 0 t []) r:=by rw[readV,if_neg hnl,if_neg hkA,if_pos hk]
  try simp (disch:=omega) only[push_cast,qE,h5,hk,decide_true,decide_false,Int.reduceEq]
  repeat (first|(refine lOn Shp.eq m5 rfl ?_; simp (disch:=omega) only[push_cast,qE,h5,hk,decide_true,decide_false,Int.reduceEq])|(rw[Vc]; simp (disch:=omega) only[push_cast,qE,h5,hk,decide_true,decide_false,Int.reduceEq]))
  try simp (disch:=omega) only[push_cast,qE,h0]
  refine callV en_61 (callX_rw (M:=o5::o4::o3::M) (fun p e b K=>o4::oRd rb s p e b::(K++(o5::o3::M))) (fun w' hw'=>textR_walk wb w' rb s p (o5::o4::o3::M) hs hp hrb hMo (tord hw')) (fun p e b K w hw=>hw.perm (pC)) (fun x q v K hr hq hS hK=>?_) (fun er q p1 v K hr he hF hK=>?_))
  ·obtain ⟨rfl,rfl⟩:=hS
   have htl:=quote_len hr
   simp (disch:=omega) only[push_cast,qE,h4]
   refine stX 0 (by rw[ho4]; rfl) Siz.eq rfl rfl (by simp[qC]) (by simp) ?_
   simp (disch:=omega) only[push_cast,qE,h4]
   refine lAg Shp.eq mem0 rfl rfl ?_
   refine sp ?_
   exact fun w' hw'=>RdR.good (x:=.mk false 0 x []) _ [] (hx.trans (by rw[hr]; rfl)) hq ⟨_,_,_,ZeV.leafV (by omega) (by decide),rfl,rfl⟩ (by simp) (fin _ _ _ [] _ w' hw')
  ·obtain ⟨⟨t,rfl⟩,rfl⟩:=hF
   simp (disch:=omega) only[push_cast,qE,h4]
   refine stX 0 (by rw[ho4]; rfl) Siz.eq rfl rfl (by simp[qC]) (by simp) ?_
   simp (disch:=omega) only[push_cast,qE,h4]
   refine lAg Shp.eq mem0 rfl rfl ?_
   refine sp ?_
   exact fun w' hw'=>RdR.bad _ [] (hx.trans (by rw[hr]; rfl)) he ⟨.mk false 0 t [],none,0,rfl⟩ (by simp) (fin _ _ _ [] _ w' hw')
 have hk12:=hk
 clear hk
 by_cases hk18:f.k=18
 ·have hk:=hk18
  have hx:readV s (d+1) f p=choiceV s (readV s d) f.sub p:=by rw[readV,if_neg hnl,if_neg hkA,if_neg hk12,if_neg (by omega),if_neg (by omega),if_neg (by omega),if_neg (by omega),if_pos hk18]
  try simp (disch:=omega) only[push_cast,qE,h5,hk,decide_true,decide_false,Int.reduceEq]
  repeat (first|(refine lOn Shp.eq m5 rfl ?_; simp (disch:=omega) only[push_cast,qE,h5,hk,decide_true,decide_false,Int.reduceEq])|(rw[Vc]; simp (disch:=omega) only[push_cast,qE,h5,hk,decide_true,decide_false,Int.reduceEq]))
  try simp (disch:=omega) only[push_cast,qE,h0,h5]
  refine lAg Shp.eq m5 rfl rfl ?_
  simp (disch:=omega) only[push_cast,qE,h0]
  refine callV en_63 (callX_rw (M:=o5::o4::o3::M) (fun p e b K=>o4::oRd rb s p e b::(K++(o5::o3::M))) (fun w' hw'=>hC wb w' lo rb s p (o5::o4::o3::M) ind f a c hlo hok hk18 hA hs hp hrb hMo (tord hw')) (fun p e b K w hw=>hw.perm (pC)) (fun x q v K hr hq hS hK=>?_) (fun er q p1 v K hr he hF hK=>?_))
  ·obtain ⟨its2,a2,c2,hv,rfl,rfl⟩:=hS
   simp (disch:=omega) only[push_cast,qE,h4,Vl.cells]
   refine stX 0 (by rw[ho4]; rfl) Siz.eq rfl rfl (by simp[qC]) (by simp) ?_
   simp (disch:=omega) only[push_cast,qE,h4]
   refine lAg Shp.eq mem0 rfl rfl ?_
   refine sp ?_
   exact fun w' hw'=>RdR.good _ (ownR its2) (hx.trans hr) hq ⟨its2,a2,c2,hv,rfl,rfl⟩ hK (fin _ _ _ _ _ w' hw')
  ·obtain ⟨y,a2,c2,rfl⟩:=hF
   simp (disch:=omega) only[push_cast,qE,h4,Vl.cells]
   refine stX 0 (by rw[ho4]; rfl) Siz.eq rfl rfl (by simp[qC]) (by simp) ?_
   simp (disch:=omega) only[push_cast,qE,h4]
   refine lAg Shp.eq mem0 rfl rfl ?_
   refine sp ?_
   exact fun w' hw'=>RdR.bad _ K (hx.trans hr) he ⟨y,a2,c2,rfl⟩ hK (fin _ _ _ _ _ w' hw')
 by_cases hk15:f.k=15∨f.k=16
 ·have hx:readV s (d+1) f p=(mustV s [91] p).and fun _ r=>(itemsV s f.k f.wd (fun r=>match f.sub[0]? with|some g=>readV s d g r|none=>.no 8 r) 4200 0 r).and fun l r=>.ok (.mk false 0 [] l) r:=by rw[readV,if_neg hnl,if_neg hkA,if_neg hk12,if_neg (by omega),if_neg (by omega),if_pos hk15]; rfl
  have hk15':=hk15
  rcases hk15 with hk|hk
  all_goals
   try simp (disch:=omega) only[push_cast,qE,h5,hk,decide_true,decide_false,Int.reduceEq]
   repeat (first|(refine lOn Shp.eq m5 rfl ?_; simp (disch:=omega) only[push_cast,qE,h5,hk,decide_true,decide_false,Int.reduceEq])|(rw[Vc]; simp (disch:=omega) only[push_cast,qE,h5,hk,decide_true,decide_false,Int.reduceEq]))
   try simp (disch:=omega) only[push_cast,qE,h0,h5]
   refine lAg Shp.eq m5 rfl rfl ?_
   simp (disch:=omega) only[push_cast,qE,h0]
   refine callV en_64 (callX_rw (M:=o5::o4::o3::M) (fun p e b K=>o4::oRd rb s p e b::(K++(o5::o3::M))) (fun w' hw'=>itemsR_step d hP wb w' lo rb s p (o5::o4::o3::M) ind f a c hlo hok hk15' hA hs hp hrb hMo (tord hw')) (fun p e b K w hw=>hw.perm (pC)) (fun x q v K hr hq hS hK=>?_) (fun er q p1 v K hr he hF hK=>?_))
   ·obtain ⟨its2,a2,c2,hv,rfl,rfl⟩:=hS
    simp (disch:=omega) only[push_cast,qE,h4,Vl.cells]
    refine stX 0 (by rw[ho4]; rfl) Siz.eq rfl rfl (by simp[qC]) (by simp) ?_
    simp (disch:=omega) only[push_cast,qE,h4]
    refine lAg Shp.eq mem0 rfl rfl ?_
    refine sp ?_
    exact fun w' hw'=>RdR.good _ (ownR its2) (hx.trans hr) hq ⟨its2,a2,c2,hv,rfl,rfl⟩ hK (fin _ _ _ _ _ w' hw')
   ·obtain ⟨y,a2,c2,rfl⟩:=hF
    simp (disch:=omega) only[push_cast,qE,h4,Vl.cells]
    refine stX 0 (by rw[ho4]; rfl) Siz.eq rfl rfl (by simp[qC]) (by simp) ?_
    simp (disch:=omega) only[push_cast,qE,h4]
    refine lAg Shp.eq mem0 rfl rfl ?_
    refine sp ?_
    exact fun w' hw'=>RdR.bad _ K (hx.trans hr) he ⟨y,a2,c2,rfl⟩ hK (fin _ _ _ _ _ w' hw')
 by_cases hk17:f.k=17
 ·have hk:=hk17
  have hx:readV s (d+1) f p=(mustV s [123] p).and fun _ r=>(kidsV s (readV s d) true f.sub r).and fun l r=>.ok (.mk false 0 [] l) r:=by rw[readV,if_neg hnl,if_neg hkA,if_neg hk12,if_neg (by omega),if_neg (by omega),if_neg hk15,if_pos hk17]
  try simp (disch:=omega) only[push_cast,qE,h5,hk,decide_true,decide_false,Int.reduceEq]
  repeat (first|(refine lOn Shp.eq m5 rfl ?_; simp (disch:=omega) only[push_cast,qE,h5,hk,decide_true,decide_false,Int.reduceEq])|(rw[Vc]; simp (disch:=omega) only[push_cast,qE,h5,hk,decide_true,decide_false,Int.reduceEq]))
  try simp (disch:=omega) only[push_cast,qE,h0,h5]
  refine lAg Shp.eq m5 rfl rfl ?_
  simp (disch:=omega) only[push_cast,qE,h0]
  refine callV en_65 (callX_rw (M:=o5::o4::o3::M) (fun p e b K=>o4::oRd rb s p e b::(K++(o5::o3::M))) (fun w' hw'=>fieldsR_step d hP wb w' lo rb s p (o5::o4::o3::M) ind f a c hlo hok hk17 hA hs hp hrb hMo (tord hw')) (fun p e b K w hw=>hw.perm (pC)) (fun x q v K hr hq hS hK=>?_) (fun er q p1 v K hr he hF hK=>?_))
  ·obtain ⟨its2,a2,c2,hv,rfl,rfl⟩:=hS
   simp (disch:=omega) only[push_cast,qE,h4,Vl.cells]
   refine stX 0 (by rw[ho4]; rfl) Siz.eq rfl rfl (by simp[qC]) (by simp) ?_
   simp (disch:=omega) only[push_cast,qE,h4]
   refine lAg Shp.eq mem0 rfl rfl ?_
   refine sp ?_
   exact fun w' hw'=>RdR.good _ (ownR its2) (hx.trans hr) hq ⟨its2,a2,c2,hv,rfl,rfl⟩ hK (fin _ _ _ _ _ w' hw')
  ·obtain ⟨y,a2,c2,rfl⟩:=hF
   simp (disch:=omega) only[push_cast,qE,h4,Vl.cells]
   refine stX 0 (by rw[ho4]; rfl) Siz.eq rfl rfl (by simp[qC]) (by simp) ?_
   simp (disch:=omega) only[push_cast,qE,h4]
   refine lAg Shp.eq mem0 rfl rfl ?_
   refine sp ?_
   exact fun w' hw'=>RdR.bad _ K (hx.trans hr) he ⟨y,a2,c2,rfl⟩ hK (fin _ _ _ _ _ w' hw')
 have m5':∀ {o:Nat×Obj},(qb1 b5 f a c)∈o4::o::([]++(o5::o3::M)):=fun {o}=>by first|(rw[← ho5]; exact .tail _ (.tail _ (.head _)))|(subst ho5; exact .tail _ (.tail _ (.head _)))
 have rawl:∀ {t:List UInt8} {q:Nat},rawV s p=.ok t q→t.length≤s.length:=fun {t q} h=>raw_len (k:=13) (wd:=0) (p:=p) (q:=q) (by unfold bytesP; rw[h,PV.and_ok,if_neg (fun h=>by omega)])
 by_cases hk13:f.k=13
 ·have hk:=hk13
  have hx:readV s (d+1) f p=(rawV s p).and fun t r=>.ok (.mk false 0 t []) r:=by rw[readV,if_neg hnl,if_neg hkA,if_neg hk12,if_pos hk]
  try simp (disch:=omega) only[push_cast,qE,h5,hk,decide_true,decide_false,Int.reduceEq]
  repeat (first|(refine lOn Shp.eq m5 rfl ?_; simp (disch:=omega) only[push_cast,qE,h5,hk,decide_true,decide_false,Int.reduceEq])|(rw[Vc]; simp (disch:=omega) only[push_cast,qE,h5,hk,decide_true,decide_false,Int.reduceEq]))
  try simp (disch:=omega) only[push_cast,qE,h0]
  refine lOn Shp.eq mrd rfl ?_
  simp (disch:=omega) only[push_cast,qE,h0]
  refine callV en_62 (callX_rw (M:=o5::o4::o3::M) (fun p e b K=>o4::oRd rb s p e b::(K++(o5::o3::M))) (fun w' hw'=>bytesR_walk wb w' rb s p (o5::o4::o3::M) hs hp hrb hMo (tord hw')) (fun p e b K w hw=>hw.perm (pC)) (fun x q v K hr hq hS hK=>?_) (fun er q p1 v K hr he hF hK=>?_))
  ·obtain ⟨rfl,rfl⟩:=hS
   have htl:=rawl hr
   simp (disch:=omega) only[push_cast,qE,h5]
   refine lOn Shp.eq m5' rfl ?_
   simp (disch:=omega) only[push_cast,qE,h5,hk,decide_true,decide_false,Int.reduceEq]
   rw[Vc]
   simp (disch:=omega) only[push_cast,qE,h4]
   refine stX 0 (by rw[ho4]; rfl) Siz.eq rfl rfl (by simp[qC]) (by simp) ?_
   simp (disch:=omega) only[push_cast,qE,h4]
   refine lAg Shp.eq mem0 rfl rfl ?_
   refine sp ?_
   exact fun w' hw'=>RdR.good (x:=.mk false 0 x []) _ [] (hx.trans (by rw[hr]; rfl)) hq ⟨_,_,_,ZeV.leafV (by omega) (by decide),rfl,rfl⟩ (by simp) (fin _ _ _ [] _ w' hw')
  ·obtain ⟨⟨t,rfl⟩,rfl⟩:=hF
   simp (disch:=omega) only[push_cast,qE,h5]
   refine lOn Shp.eq m5' rfl ?_
   simp (disch:=omega) only[push_cast,qE,h5,hk,decide_true,decide_false,Int.reduceEq]
   rw[Vc]
   simp (disch:=omega) only[push_cast,qE,h4]
   refine stX 0 (by rw[ho4]; rfl) Siz.eq rfl rfl (by simp[qC]) (by simp) ?_
   simp (disch:=omega) only[push_cast,qE,h4]
   refine lAg Shp.eq mem0 rfl rfl ?_
   refine sp ?_
   exact fun w' hw'=>RdR.bad _ [] (hx.trans (by rw[hr]; rfl)) he ⟨.mk false 0 t [],none,0,rfl⟩ (by simp) (fin _ _ _ [] _ w' hw')
 by_cases hk14:f.k=14
 ·have hk:=hk14
  have hx:readV s (d+1) f p=(rawV s p).and fun t r=>if (t.length:Int)=f.wd then .ok (.mk false 0 t []) r else .no 8 p:=by rw[readV,if_neg hnl,if_neg hkA,if_neg hk12,if_neg hk13,if_pos hk]
  try simp (disch:=omega) only[push_cast,qE,h5,hk,decide_true,decide_false,Int.reduceEq]
  repeat (first|(refine lOn Shp.eq m5 rfl ?_; simp (disch:=omega) only[push_cast,qE,h5,hk,decide_true,decide_false,Int.reduceEq])|(rw[Vc]; simp (disch:=omega) only[push_cast,qE,h5,hk,decide_true,decide_false,Int.reduceEq]))
  try simp (disch:=omega) only[push_cast,qE,h0]
  refine lOn Shp.eq mrd rfl ?_
  simp (disch:=omega) only[push_cast,qE,h0]
  refine callV en_62 (callX_rw (M:=o5::o4::o3::M) (fun p e b K=>o4::oRd rb s p e b::(K++(o5::o3::M))) (fun w' hw'=>bytesR_walk wb w' rb s p (o5::o4::o3::M) hs hp hrb hMo (tord hw')) (fun p e b K w hw=>hw.perm (pC)) (fun x q v K hr hq hS hK=>?_) (fun er q p1 v K hr he hF hK=>?_))
  ·obtain ⟨rfl,rfl⟩:=hS
   have htl:=rawl hr
   simp (disch:=omega) only[push_cast,qE,h5]
   refine lOn Shp.eq m5' rfl ?_
   simp (disch:=omega) only[push_cast,qE,h5,hk,decide_true,decide_false,Int.reduceEq]
   refine lOn Shp.eq m5' rfl ?_
   simp (disch:=omega) only[push_cast,qE,h5]
   rw[Vc]
   simp (disch:=omega) only[push_cast,qE,h5]
   refine cdD (fun hne=>?_) (fun heq=>?_)
   ·simp (disch:=omega) only[push_cast,qE,h0]
    refine callV en_30 (callX_own (S:=fun v L'=>v=.tuple #[]∧L'=o4::oRd rb s q 8 p::([]++(o5::o3::M))) (fun w' hw'=>(failR_ok wb w' rb s q 0 (o4::([]++(o5::o3::M))) 8 p (hw'.perm (List.Perm.swap _ _ _))).mono fun e w2 ⟨v,L',k1,k2,k3,k4⟩=>⟨v,_,k1,(by rw[k4] at k2; exact k2.perm (List.Perm.swap _ _ _)),k3,rfl⟩) (fun v L' hv=>?_))
    obtain ⟨rfl,rfl⟩:=hv
    simp (disch:=omega) only[push_cast,qE,h4]
    refine stX 0 (by rw[ho4]; rfl) Siz.eq rfl rfl (by simp[qC]) (by simp) ?_
    simp (disch:=omega) only[push_cast,qE,h4]
    refine lAg Shp.eq mem0 rfl rfl ?_
    refine sp ?_
    exact fun w' hw'=>RdR.bad _ [] (hx.trans (by rw[hr,PV.and_ok,if_neg hne])) (by decide) ⟨.mk false 0 x [],none,0,rfl⟩ (by simp) (fin _ _ _ [] _ w' hw')
   ·have heq':(x.length:Int)=f.wd:=by omega
    simp (disch:=omega) only[push_cast,qE,h4]
    refine stX 0 (by rw[ho4]; rfl) Siz.eq rfl rfl (by simp[qC]) (by simp) ?_
    simp (disch:=omega) only[push_cast,qE,h4]
    refine lAg Shp.eq mem0 rfl rfl ?_
    refine sp ?_
    exact fun w' hw'=>RdR.good (x:=.mk false 0 x []) _ [] (hx.trans (by rw[hr,PV.and_ok,if_pos heq'])) hq ⟨_,_,_,ZeV.leafV (by omega) (by decide),rfl,rfl⟩ (by simp) (fin _ _ _ [] _ w' hw')
  ·obtain ⟨⟨t,rfl⟩,rfl⟩:=hF
   simp (disch:=omega) only[push_cast,qE,h5]
   refine lOn Shp.eq m5' rfl ?_
   simp (disch:=omega) only[push_cast,qE,h5,hk,decide_true,decide_false,Int.reduceEq]
   refine lOn Shp.eq m5' rfl ?_
   simp (disch:=omega) only[push_cast,qE,h5]
   rw[Vc]
   simp (disch:=omega) only[push_cast,qE,h5]
   refine cdD (fun hne=>?_) (fun heq=>?_)
   ·simp (disch:=omega) only[push_cast,qE,h0]
    refine callV en_30 (cIs (fun w' hw'=>failR_no w' rb s p1 q 8 er p he (At.of_own hw' mem1 rfl)) ?_)
    simp (disch:=omega) only[push_cast,qE,h4]
    refine stX 0 (by rw[ho4]; rfl) Siz.eq rfl rfl (by simp[qC]) (by simp) ?_
    simp (disch:=omega) only[push_cast,qE,h4]
    refine lAg Shp.eq mem0 rfl rfl ?_
    refine sp ?_
    exact fun w' hw'=>RdR.bad _ [] (hx.trans (by rw[hr]; rfl)) he ⟨.mk false 0 t [],none,0,rfl⟩ (by simp) (fin _ _ _ [] _ w' hw')
   ·skip
    simp (disch:=omega) only[push_cast,qE,h4]
    refine stX 0 (by rw[ho4]; rfl) Siz.eq rfl rfl (by simp[qC]) (by simp) ?_
    simp (disch:=omega) only[push_cast,qE,h4]
    refine lAg Shp.eq mem0 rfl rfl ?_
    refine sp ?_
    exact fun w' hw'=>RdR.bad _ [] (hx.trans (by rw[hr]; rfl)) he ⟨.mk false 0 t [],none,0,rfl⟩ (by simp) (fin _ _ _ [] _ w' hw')
 have hk:f.k=1:=by omega
 have hx:readV s (d+1) f p=.no 8 p:=by
  rw[readV,if_neg hnl,if_neg hkA,if_neg hk12,if_neg hk13,if_neg hk14,if_neg hk15,if_neg hk17,if_neg hk18]
  rw[readN_no (fun n hn=>by
   have h:=hn.2
   rw[if_neg (by omega),if_neg (by omega)] at h
   have:=h.1
   unfold wholeP at this
   rw[hk] at this
   exact absurd this (by decide))]
 try simp (disch:=omega) only[push_cast,qE,h5,hk,decide_true,decide_false,Int.reduceEq]
 repeat (first|(refine lOn Shp.eq m5 rfl ?_; simp (disch:=omega) only[push_cast,qE,h5,hk,decide_true,decide_false,Int.reduceEq])|(rw[Vc]; simp (disch:=omega) only[push_cast,qE,h5,hk,decide_true,decide_false,Int.reduceEq]))
 try simp (disch:=omega) only[push_cast,qE,h0]
 refine lOn Shp.eq mrd rfl ?_
 simp (disch:=omega) only[push_cast,qE,h0]
 refine callV en_30 (callX_own (S:=fun v L'=>v=.tuple #[]∧L'=o4::oRd rb s p 8 p::([]++(o5::o3::M))) (fun w' hw'=>(failR_ok wb w' rb s p 0 (o5::o4::o3::M) 8 p (tord hw')).mono fun e w2 ⟨v,L',k1,k2,k3,k4⟩=>⟨v,_,k1,(by rw[k4] at k2; exact k2.perm (pC)),k3,rfl⟩) (fun v L' hv=>?_))
 obtain ⟨rfl,rfl⟩:=hv
 simp (disch:=omega) only[push_cast,qE,h4]
 refine stX 0 (by rw[ho4]; rfl) Siz.eq rfl rfl (by simp[qC]) (by simp) ?_
 simp (disch:=omega) only[push_cast,qE,h4]
 refine lAg Shp.eq mem0 rfl rfl ?_
 refine sp ?_
 exact fun w' hw'=>failing hx rfl hw'
theorem valueR_all (hC:∀ d,RvOK d→ChOK d):∀ d,RvOK d
 | 0=>fun wb w lo rb s p M ind f a c hlo hok=>hok.elim
 | d+1=>valueR_step d (valueR_all hC d) (hC d (valueR_all hC d))
end Go.Proofs.YtilejcofleeeiaaGreatDoor
