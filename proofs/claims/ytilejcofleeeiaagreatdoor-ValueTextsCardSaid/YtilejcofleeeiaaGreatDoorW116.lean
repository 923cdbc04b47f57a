/- YtilejcofleeeiaaGreatDoor: walks, part 59: fields that can be read in all worlds of a kind. -/
import Derived.Test.YtilejcofleeeiaaGreatDoorW270
import Derived.Test.YtilejcofleeeiaaGreatDoorW240
import Derived.Laws.MakeOwn
import Derived.RangeFuncRecord
namespace Go.Proofs.YtilejcofleeeiaaGreatDoor
open Go Go.K
open Nat renaming reduceEqDiff → qE
open List renaming mem_append_right → qR, length_cons → qN, length_append → qA, mem_nil_iff → qI
set_option maxRecDepth 100000
set_option linter.unusedVariables false
set_option linter.unusedSimpArgs false
set_option maxHeartbeats 4000000
theorem choiceR_all:∀ d,RvOK d→ChOK d:=fun d hP wb w lo rb s p M ind f a c hlo hok hk hA hs hp hrb hM hw=>choiceR_step d hP wb w lo rb s p M ind f a c hlo hok hk hA hs hp hrb hM hw
theorem parseRef_walk (w:World) (lo:Nat) (hlo:lo≤w.heap.size) (f:Fld) (a:Option Addr) (c:Nat) (hA:FlAt w lo f a c) (hfn:f.nm.length≤9223372036854775807) (t:List UInt8) (ht:t.length≤9223372036854775807) :
 Calls Tryz.prog 11 #[.agg (f.cells a c).toArray,str t] w (RetsN w (PvV (parseVP f t))):=by
 refine enterT (args:=[.agg (f.cells a c).toArray,str t]) Tryz.func11 rfl Tryz.ntmps11 (congrArg Array.toList Tryz.results11) (by kernel_rfl) (by simp) (Sy.refl w) ?_
 simp (disch:=omega) only[push_cast,qE,Fld.cells]
 refine newI (fun b2 hb2 hn2=>?_)
 simp (disch:=omega) only[push_cast,qE,Fld.cells]
 refine newI (fun b4 hb4 hn4=>?_)
 simp (disch:=omega) only[push_cast,qE,Fld.cells]
 have hL:∀ x y:Obj,∀ p∈[(b4,x),(b2,y)],w.heap.size≤p.1:=fun x y p hp=>by
  simp only[List.mem_cons,qI,or_false] at hp
  rcases hp with rfl|rfl
  ·exact hb4
  ·exact hb2
 have bye:∀ {x y:Obj} {w':World} {e:Int},parseVP f t=(.mk false 0 [] [],e,0)→Sy w [(b4,x),(b2,y)] w'→RetsN w (PvV (parseVP f t)) (.returned (.tuple #[.agg #[.bool false,i64 0,str [],.slice none 0 0],i64 e,i64 0])) w':=fun {x y w' e} h hw'=>by
  rw[h]
  exact ⟨_,[],rfl,hw'.end (hL _ _),by simp,PvV.none e 0⟩
 refine lAg Shp.eq mem1 rfl rfl ?_
 refine sp ?_
 refine callV en_28 (cIs (fun w' hw'=>right_walk w' lo (Nat.le_trans hlo hw'.size) f a c (hA.sy hlo hw' (hL _ _)) hfn) ?_)
 refine sp ?_
 rw[Vc]
 refine sp ?_
 refine cdB (fun hm=>?_) (fun hm=>?_)
 ·rw[Bool.not_eq_true'] at hm
  refine sp ?_
  refine sXa 0 rfl Siz.eq rfl rfl ?_
  refine sp ?_
  refine lAg Shp.eq mem0 rfl rfl ?_
  refine sp ?_
  exact fun w' hw'=>bye (by unfold parseVP; rw[if_pos hm]) hw'
 rw[Bool.not_eq_false'] at hm
 refine sp ?_
 rw[Vc]
 refine sp ?_
 refine cdD (fun hb=>?_) (fun hb=>?_)
 ·refine sp ?_
  refine sXa 0 rfl Siz.eq rfl rfl ?_
  refine sp ?_
  refine lAg Shp.eq mem0 rfl rfl ?_
  refine sp ?_
  exact fun w' hw'=>bye (by unfold parseVP; rw[if_neg (by rw[hm]; simp),if_pos (by omega)]) hw'
 have hpv:parseVP f t=match readV t 64 f 0 with | .no e q=>(.mk false 0 [] [],e,q) | .ok v q=>if q < t.length then (.mk false 0 [] [],8,q) else (v,0,0):=by
  unfold parseVP
  rw[if_neg (by rw[hm]; simp),if_neg (by omega)]
  rfl
 refine sp ?_
 refine newI (fun b8 hb8 hn8=>?_)
 refine sp ?_
 refine lAg Shp.eq mem2 rfl rfl ?_
 refine sp ?_
 obtain ⟨o2,ho2⟩:∃ o,o=(qb0 b2 f a c):=⟨_,rfl⟩
 obtain ⟨o4,ho4⟩:∃ o,o=(qb2 b4):=⟨_,rfl⟩
 have hM:∀ b∈[o4,o2],w.heap.size≤b.1:=by rw[ho2,ho4]; exact hL _ _
 refine callV en_29 (callX_weak (L':=oRd b8 t 0 0 0::[o4,o2]) (fun w hw=>by rw[ho2,ho4]; exact hw) (callX_ru (fun p e b K=>o4::oRd b8 t p e b::(K++[o2])) (fun w' hw'=>valueR_all choiceR_all 64 w w' lo b8 t 0 [o4,o2] false f a c hlo (may_okT hm) hA (by omega) (Nat.zero_le _) hb8 hM hw') (fun p e b K w hw=>hw.perm (pC)) (fun p er bd v K hmd hK=>?_)))
 obtain ⟨y,a2,c2,rfl,hmd2⟩:∃ (y:Vl) (a2:Option Addr) (c2:Nat),v=.agg (y.cells a2 c2).toArray∧((er=0∧bd=0∧p≤t.length∧readV t 64 f 0=.ok y p∧∃ its,ZeV y its a2 c2∧K=ownR its)∨(er≠0∧readV t 64 f 0=.no er bd)):=by
  rcases hmd with ⟨x,h1,h2,⟨its,a2,c2,h3,rfl,h4⟩,h5,h6⟩|⟨h1,h2,⟨y,a2,c2,rfl⟩⟩
  ·exact ⟨x,a2,c2,rfl,.inl ⟨h5,h6,h2,h1,its,h3,h4⟩⟩
  ·exact ⟨y,a2,c2,rfl,.inr ⟨h2,h1⟩⟩
 clear hmd
 simp (disch:=omega) only[push_cast,qE,Vl.cells]
 refine newI (fun b9 hb9 hn9=>?_)
 simp (disch:=omega) only[push_cast,qE,Vl.cells]
 refine sXa 0 rfl Siz.eq rfl rfl ?_
 refine sp ?_
 refine lOn Shp.eq (.tail _ (.tail _ (.head _))) rfl ?_
 refine sp ?_
 have hLn':∀ (x:Obj) (p:Nat) (er:Int) (bd:Nat),∀ b∈(b9,Obj.cells (y.cells a2 c2).toArray 29 (0,0))::(b4,x)::oRd b8 t p er bd::(K++[o2]),w.heap.size≤b.1:=fun x p er bd b hb=>by
  simp only[List.mem_cons,List.mem_append,qI,or_false] at hb
  rcases hb with rfl|rfl|rfl|hb|rfl
  ·exact hb9
  ·exact hb4
  ·exact hb8
  ·exact hK b hb
  ·rw[ho2]; exact hb2
 have hLn:∀ (p:Nat) (er:Int) (bd:Nat),∀ b∈(b9,Obj.cells (y.cells a2 c2).toArray 29 (0,0))::o4::oRd b8 t p er bd::(K++[o2]),w.heap.size≤b.1:=by rw[ho4]; exact hLn' _
 rcases hmd2 with ⟨rfl,rfl,hp,hrd,its,hZ,rfl⟩|⟨her,hrd⟩
 ·refine gT rfl (fun _=>?_) (fun h=>absurd rfl h)
  refine sp ?_
  refine lOn Shp.eq (.tail _ (.tail _ (.head _))) rfl ?_
  refine sp ?_
  rw[Vc]
  refine sp ?_
  refine cdD (fun hlt=>?_) (fun hge=>?_)
  ·have hpv2:parseVP f t=(.mk false 0 [] [],8,p):=by rw[hpv,hrd]; simp only; rw[if_pos (by omega)]
   refine sp ?_
   refine lOn Shp.eq (.tail _ (.tail _ (.head _))) rfl ?_
   refine sp ?_
   refine callV en_30 (callX_own (S:=fun v L'=>v=.tuple #[]∧L'=(b9,Obj.cells (y.cells a2 c2).toArray 29 (0,0))::o4::oRd b8 t p 8 p::(ownR its++[o2])) (fun w' hw'=>(failR_ok w w' b8 t p 0 ((b9,Obj.cells (y.cells a2 c2).toArray 29 (0,0))::o4::(ownR its++[o2])) 8 p ((show Sy w ((b9,Obj.cells (y.cells a2 c2).toArray 29 (0,0))::o4::oRd b8 t p 0 0::(ownR its++[o2])) w' from hw').perm (pC))).mono fun e w2 ⟨v,L',k1,k2,k3,k4⟩=>⟨v,_,k1,(by rw[k4] at k2; exact k2.perm (pC)),k3,rfl⟩) (fun v L' hv=>?_))
   obtain ⟨rfl,rfl⟩:=hv
   refine sp ?_
   refine lOn Shp.eq (.tail _ (.tail _ (.head _))) rfl ?_
   refine sp ?_
   rw[Vc]
   refine sp ?_
   refine cdD (fun _=>?_) (fun h=>absurd (by decide) h)
   refine sp ?_
   refine freeT [0,1,2,3,4,5,6,7,8] [9,10,11] [oRd b8 t p 8 p] (by kernel_rfl) mixed (by kernel_rfl) (stab_one (.tail _ (.tail _ (.head _))) (hLn p 8 p)) ?_
   refine sp ?_
   refine lOn Shp.eq mem0 rfl ?_
   refine sp ?_
   refine lOn Shp.eq mem0 rfl ?_
   refine sp ?_
   rw[ho4]
   refine sXa 1 rfl Siz.eq rfl rfl ?_
   refine sp ?_
   refine ⟨stab_one (.tail _ (.tail _ (.head _))) (hLn' _ p 8 p),stab_one (.tail _ (.tail _ (.head _))) (hLn' _ p 8 p),stab_one (.tail _ (.tail _ (.head _))) (hLn' _ p 8 p),?_⟩
   try simp (disch:=omega) only[push_cast,qE]
   refine lAg Shp.eq mem1 rfl rfl ?_
   refine sp ?_
   refine fun w' hw'=>⟨_,[],rfl,hw'.end (hLn' _ p 8 p),by simp,?_⟩
   rw[hpv2]
   exact PvV.none _ _
  ·have hpv2:parseVP f t=(y,0,0):=by rw[hpv,hrd]; simp only; rw[if_neg (by omega)]
   refine sp ?_
   refine lOn Shp.eq (.tail _ (.tail _ (.head _))) rfl ?_
   refine sp ?_
   rw[Vc]
   refine sp ?_
   refine cdD (fun h=>absurd rfl h) (fun _=>?_)
   refine sp ?_
   refine lAg Shp.eq (show (b9,Obj.cells (y.cells a2 c2).toArray 29 (0,0))∈_ from .head _) rfl rfl ?_
   refine sp ?_
   rw[ho4]
   refine stX 1 rfl Siz.eq rfl rfl (by simp[Vl.cells,Value.oneCell']) (by simp) ?_
   refine sp ?_
   refine lAg Shp.eq mem1 rfl rfl ?_
   refine sp ?_
   refine fun w' hw'=>⟨_,ownR its,rfl,?_,hK,?_⟩
   ·have h1:Sy w ([(b9,Obj.cells (y.cells a2 c2).toArray 29 (0,0)),(b4,Obj.cells (y.cells a2 c2).toArray 29 (0,0)),oRd b8 t p 0 0,o2]++ownR its) w':=(show Sy w ((b9,Obj.cells (y.cells a2 c2).toArray 29 (0,0))::(b4,Obj.cells (y.cells a2 c2).toArray 29 (0,0))::oRd b8 t p 0 0::(ownR its++[o2])) w' from hw').perm (pC)
    exact h1.left (fun b hb=>by
     simp only[List.mem_cons,qI,or_false] at hb
     rcases hb with rfl|rfl|rfl|rfl
     ·exact hb9
     ·exact hb4
     ·exact hb8
     ·rw[ho2]; exact hb2)
   ·rw[hpv2]
    exact ⟨its,a2,c2,hZ,rfl,rfl⟩
 ·have hpv2:parseVP f t=(.mk false 0 [] [],er,bd):=by rw[hpv,hrd]
  refine gT rfl (fun h=>absurd h her) (fun _=>?_)
  refine sp ?_
  rw[Vc]
  refine sp ?_
  refine lOn Shp.eq (.tail _ (.tail _ (.head _))) rfl ?_
  refine sp ?_
  rw[Vc]
  refine sp ?_
  refine cdD (fun _=>?_) (fun h=>absurd her h)
  refine sp ?_
  refine freeT [0,1,2,3,4,5,6,7,8] [9,10,11] [oRd b8 t p er bd] (by kernel_rfl) mixed (by kernel_rfl) (stab_one (.tail _ (.tail _ (.head _))) (hLn p er bd)) ?_
  refine sp ?_
  refine lOn Shp.eq mem0 rfl ?_
  refine sp ?_
  refine lOn Shp.eq mem0 rfl ?_
  refine sp ?_
  rw[ho4]
  refine sXa 1 rfl Siz.eq rfl rfl ?_
  refine sp ?_
  refine ⟨stab_one (.tail _ (.tail _ (.head _))) (hLn' _ p er bd),stab_one (.tail _ (.tail _ (.head _))) (hLn' _ p er bd),stab_one (.tail _ (.tail _ (.head _))) (hLn' _ p er bd),?_⟩
  try simp (disch:=omega) only[push_cast,qE]
  refine lAg Shp.eq mem1 rfl rfl ?_
  refine sp ?_
  refine fun w' hw'=>⟨_,[],rfl,hw'.end (hLn' _ p er bd),by simp,?_⟩
  rw[hpv2]
  exact PvV.none _ _
theorem infoRowV:(Tryz.prog.info? 27).map (fun i=>(i.zero,i.size,i.bytes))=some (some (.slice none 0 0),1,24):=by kernel_rfl
mutual
theorem ZeV.count:∀ (v:Vl) {its:List Rw} {a:Option Addr} {c:Nat},ZeV v its a c→its.length * 16≤wV v
 | .mk nu num tx ls,its,a,c,h=>by
  rw[ZeV] at h
  obtain ⟨_,_,x,its',rfl,_,_,_,_,h5⟩:=h
  have:=ZeK.count ls h5
  rw[wV,qN]
  omega
theorem ZeK.count:∀ (ls:List Vl) {its:List Rw} {cs:List Value},ZeK ls its cs→its.length * 16≤wL ls
 | [],its,cs,h=>by
  rw[ZeK] at h
  rw[h.1,wL]
  simp
 | v::l,its,cs,h=>by
  rw[ZeK] at h
  obtain ⟨its1,its2,a,c,cs',rfl,rfl,h1,h2⟩:=h
  have q1:=ZeV.count v h1
  have q2:=ZeK.count l h2
  rw[wL,qA]
  omega
end
def BkO (bk:Nat) (va:Value):Nat×Obj:=(bk,Obj.cells #[va,.slice none 0 0,.slice none 0 0,.slice none 0 0] 43 (0,0))
abbrev RowW (wb:World) (R:Own) (va:Value) (ws:List Value):Prop:=RowO wb 27 1 R [] va ws.length ws
def BvOK (n:Nat):Prop:=∀ (wb w:World) (bk:Nat) (va:Value) (R M:Own) (ws:List Value) (x:Rw) (its:List Rw) (ls:List Vl),SizeOf.sizeOf ls≤n→x.OK→x.n=ls.length→ZeK ls its (x.cs.take (x.n * 4))→RowW wb R va ws→(∀ p∈x.own,p∈M)→(∀ p∈ownR its,p∈M)→(∀ p∈M,wb.heap.size≤p.1)→wb.heap.size≤bk→ws.length+(its.length+1)≤1000000→Sy wb (BkO bk va::(R++M)) w →
 Calls Tryz.prog 34 #[.pointer (some ⟨bk,0,none⟩),x.way] w (fun e w'=>e=.returned (.tuple #[])∧∃ va' R',RowW wb R' va' (ws++(x::its).map Rw.way)∧Sy wb (BkO bk va'::(R'++M)) w')
structure BvI (w0:World) (bk:Nat) (M:Own) (ws:List Value) (x:Rw) (its:List Rw) (ls:List Vl) (i:Nat) (wb:World) (e:Env) (ds:List Deferred) (L:Own):Prop where
 hw:wb=w0
 hds:ds=[]
 hi:i≤ls.length
 h0:e 0=.pointer (some ⟨bk,0,none⟩)
 h1:e 1=x.way
 h4:e 4=i64 i
 o:∃ (va:Value) (R:Own) (itsA itsB:List Rw),its=itsA++itsB∧ZeK (ls.drop i) itsB ((x.cs.take (x.n * 4)).drop (i * 4))∧RowW w0 R va (ws++(x::itsA).map Rw.way)∧L=BkO bk va::(R++M)
theorem values_step (n:Nat) (hT:BvOK n):BvOK (n+1):=by
 intro wb w bk va R M ws x its ls hn hx hxn hk hro hxm him hM hbk hsm hw
 have hn63:=Rw.n_le hx
 simp only[maxLen] at hn63
 have hRn:∀ p∈R,wb.heap.size≤p.1:=RowO.new hro (by simp)
 refine enterB (args:=[.pointer (some ⟨bk,0,none⟩),x.way]) Tryz.func34 rfl Tryz.ntmps34 (congrArg Array.toList Tryz.results34) (by kernel_rfl) (by simp) hw ?_
 simp (disch:=omega) only[push_cast,qE,BkO]
 refine lOn Shp.eq mem0 rfl ?_
 refine sp ?_
 refine bs_40_1 (newI fun b11 hb11 hn11=>?_)
 refine sp ?_
 refine valX_weak (L':=R++((b11,Obj.cells #[x.way] 27 (0,0))::(BkO bk va::M))) (fun w hw=>hw.perm ?_) (appendI un_40 infoRowV rfl (m:=1) (news:=[x.way]) (RowO.frame hro) rfl (CanRead.of_own (e:=27) (b:=b11) (cs:=[x.way]) (n:=1) (qR _ (.head _)) rfl rfl) (by simp[Value.oneCell',Rw.way]) (by simp only[maxLen]; omega) (by omega) (fun v' L' hr' _=>?_))
 ·exact (List.perm_middle.symm.cons _).trans List.perm_middle.symm
 obtain ⟨R1,rfl,hR1⟩:=RowO.unframe hr'
 obtain ⟨va1,vc1,rfl⟩:=hR1.is_slice
 refine sp ?_
 refine storeX_weak (L':=BkO bk va::(R1++M)) (fun w hw=>?_) (stX 0 rfl Siz.eq rfl rfl (by simp[Value.oneCell']) (by simp[BkO]) ?_)
 ·have h1:=hw.mid R1 [_] (C:=BkO bk va::M) (fun p hp=>by rw[List.mem_singleton.1 hp]; exact hb11)
  exact h1.perm List.perm_middle
 refine sp ?_
 rw[Vb]
 refine sp ?_
 refine loopW (G:=Nat) (BvI wb bk M ws x its ls) (fun i=>ls.length - i) 0 (BkO bk (.slice va1 (ws.length+1) vc1)::(R1++M)) (fun w hw=>hw) (by kernel_rfl) ⟨rfl,rfl,by omega,rfl,rfl,rfl,_,R1,[],its,rfl,un hk,(by simpa [RowW] using hR1),rfl⟩ ?_
 rintro i wb e ds L ⟨rfl,rfl,hi,h0,h1,h4,va2,R2,itsA,itsB,hits,hkB,hro2,rfl⟩
 simp (disch:=omega) only[push_cast,qE,h0,h1,h4,Rw.way]
 rw[Vc]
 simp (disch:=omega) only[push_cast,qE,h0,h1,h4,Rw.way]
 refine cdD (fun hlt=>?_) (fun hge=>?_)
 rotate_left
 ·obtain rfl:i=ls.length:=by omega
  simp (disch:=omega) only[push_cast,qE,h0,h1,h4]
  rw[List.drop_length,ZeK] at hkB
  obtain ⟨rfl,_⟩:=hkB
  rw[List.append_nil] at hits
  subst hits
  exact fun w' hw'=>⟨va2,R2,hro2,hw'⟩
 obtain ⟨v,hv⟩:∃ v,ls[i]?=some v:=⟨_,List.getElem?_eq_getElem (by omega)⟩
 have hdrop:ls.drop i=v::ls.drop (i+1):=by
  obtain ⟨q1,rfl⟩:=List.getElem?_eq_some_iff.1 hv
  exact List.drop_eq_getElem_cons q1
 rw[hdrop,ZeK] at hkB
 obtain ⟨its1,its2,a,c,cs',rfl,hcs,hZ,hk2⟩:=hkB
 obtain ⟨u1,u2,x1,its1',rfl,y1,y2,rfl,rfl,y5⟩:=(ZeV_iff _ _ _ _).1 hZ
 obtain ⟨b,hb⟩:∃ b,x.b=some b:=by
  rcases hx with ⟨_,q,_⟩|⟨q,_⟩
  ·omega
  ·exact Option.ne_none_iff_exists'.1 q
 have hat:x.at_=some ⟨b,0,none⟩:=by unfold Rw.at_; rw[hb]; rfl
 have hbm:(b,Obj.cells x.cs.toArray 29 (0,0))∈M:=hxm _ (by unfold Rw.own; rw[hb]; exact .head _)
 have hget:x.cs[i * 4+3]?=some (.slice x1.at_ v.ls.length x1.c):=by
  have q1:((x.cs.take (x.n * 4)).drop (i * 4))[3]?=some (.slice x1.at_ v.ls.length x1.c):=by rw[hcs]; rfl
  rw[List.getElem?_drop,List.getElem?_take] at q1
  split at q1
  ·exact q1
  ·cases q1
 have h1':e 1=.slice (some ⟨b,0,none⟩) x.n x.c:=by rw[h1,Rw.way,hat]
 simp (disch:=omega) only[push_cast,qE,h0,h1',h4]
 rw[Vb]
 simp (disch:=omega) only[push_cast,qE,h0,h1',h4]
 refine lOn Shp.eq (List.mem_cons_of_mem _ (qR _ hbm)) hget ?_
 simp (disch:=omega) only[push_cast,qE,h0,h1',h4]
 have hszv:SizeOf.sizeOf v.ls≤n:=by
  have q1:=List.sizeOf_lt_of_mem (List.mem_of_getElem? hv)
  have q2:SizeOf.sizeOf v.ls < SizeOf.sizeOf v:=by cases v; simp only[Vl.ls,Vl.mk.sizeOf_spec]; omega
  omega
 have hway:Value.slice x1.at_ v.ls.length x1.c=x1.way:=by rw[Rw.way,y2]
 rw[hway]
 subst hits
 simp only[qA,qN] at hsm
 refine callV en_34 (callX_base (fun w' hw'=>hT wb w' bk va2 R2 M (ws++(x::itsA).map Rw.way) x1 its1' v.ls hszv y1 y2 y5 hro2 (fun p hp=>him p (by rw[ownR_append,ownR_append,ownR_cons]; simp[hp])) (fun p hp=>him p (by rw[ownR_append,ownR_append,ownR_cons]; simp[hp])) hM hbk (by simp only[qA,List.length_map,qN]; omega) hw') ?_)
 rintro e' w' ⟨rfl,va3,R3,q1,q2⟩
 refine ⟨_,_,rfl,q2,?_⟩
 simp (disch:=omega) only[push_cast,qE,h0,h1',h4]
 refine ⟨i+1,_,fun w hw=>hw,⟨rfl,rfl,by omega,h0,h1,uu,va3,R3,itsA++(x1::its1'),its2,by simp,?_,?_,rfl⟩,by omega⟩
 ·have q3:(x.cs.take (x.n * 4)).drop ((i+1) * 4)=cs':=by
   rw[show (i+1) * 4=i * 4+4 by omega,← List.drop_drop,hcs]
   rfl
  rw[q3]
  exact hk2
 ·have q3:ws++(x::(itsA++x1::its1')).map Rw.way=ws++(x::itsA).map Rw.way++(x1::its1').map Rw.way:=by simp
  rw[q3]
  simpa [RowW] using q1
theorem values_all:∀ n,BvOK n:=by
 intro n
 induction n with
 | zero =>
  intro wb w bk va R M ws x its ls hn
  cases ls<;>simp at hn
 | succ n ih=>exact values_step n ih
theorem bookValue_walk (wb w:World) (bk:Nat) (va:Value) (R M:Own) (ws:List Value) (v:Vl) (its:List Rw) (a:Option Addr) (c:Nat) (hZ:ZeV v its a c) (hro:RowW wb R va ws) (him:∀ p∈ownR its,p∈M) (hM:∀ p∈M,wb.heap.size≤p.1) (hbk:wb.heap.size≤bk) (hsm:ws.length+its.length≤1000000) (hw:Sy wb (BkO bk va::(R++M)) w) :
 Calls Tryz.prog 14 #[.pointer (some ⟨bk,0,none⟩),.agg (v.cells a c).toArray] w (fun e w'=>e=.returned (.tuple #[])∧∃ va' R',RowW wb R' va' (ws++its.map Rw.way)∧Sy wb (BkO bk va'::(R'++M)) w'):=by
 obtain ⟨u1,u2,x,its',rfl,y1,y2,rfl,rfl,y5⟩:=(ZeV_iff _ _ _ _).1 hZ
 refine enterB (args:=[.pointer (some ⟨bk,0,none⟩),.agg (v.cells x.at_ x.c).toArray]) Tryz.func14 rfl Tryz.ntmps14 (congrArg Array.toList Tryz.results14) (by kernel_rfl) (by simp) hw ?_
 simp (disch:=omega) only[push_cast,qE,Vl.cells]
 refine newI (fun b3 hb3 hn3=>?_)
 simp (disch:=omega) only[push_cast,qE,Vl.cells]
 refine lOn Shp.eq mem0 rfl ?_
 refine sp ?_
 have hway:Value.slice x.at_ v.ls.length x.c=x.way:=by rw[Rw.way,y2]
 rw[hway]
 refine callV en_34 (callX_base (fun w' hw'=>values_all _ wb w' bk va R ((b3,Obj.cells #[.bool v.nu,i64 v.num,str v.tx,x.way] 29 (0,0))::M) ws x its' v.ls (Nat.le_refl _) y1 y2 y5 hro (fun p hp=>List.mem_cons_of_mem _ (him p (by rw[ownR_cons]; simp[hp]))) (fun p hp=>List.mem_cons_of_mem _ (him p (by rw[ownR_cons]; simp[hp]))) ((nC hb3 hM)) hbk (un hsm) (hw'.perm ((List.Perm.swap _ _ _).trans (List.perm_middle.symm.cons _)))) ?_)
 rintro e' w' ⟨rfl,va3,R3,q1,q2⟩
 refine ⟨_,BkO bk va3::(R3++M),rfl,q2.mid (BkO bk va3::R3) [_] (fun p hp=>by rw[List.mem_singleton.1 hp]; exact hb3),?_⟩
 refine sp ?_
 exact fun w' hw'=>⟨va3,R3,q1,hw'⟩
def markC (k:Nat):List Value:=[.bool false,i64 (1000+k),str [],.slice none 0 0]
structure VdI (w0:World) (a:Option Addr) (n c k:Nat) (i:Nat) (wb:World) (e:Env) (ds:List Deferred) (L:Own):Prop where
 hw:wb=w0
 hds:ds=[]
 o:L=[]
 hi:i≤n
 h0:e 0=.slice a n c
 h1:e 1=i64 k
 h5:e 5=i64 i
theorem valued_walk (w:World) (a:Option Addr) (n c k:Nat) (hk:k≤1000000) (hn:n≤9223372036854775807) (h:∀ i,i < n→∃ b,a=some ⟨b,0,none⟩∧At w b (i * 4) (markC k)) :
 Calls Tryz.prog 35 #[.slice a n c,i64 k] w (Rets w (Is (.bool true))):=by
 refine enterT (args:=[.slice a n c,i64 k]) Tryz.func35 rfl Tryz.ntmps35 (congrArg Array.toList Tryz.results35) (by kernel_rfl) (by simp) (Sy.refl w) ?_
 refine sp ?_
 rw[Vb]
 refine sp ?_
 refine loopW (G:=Nat) (VdI w a n c k) (fun i=>n - i) 0 _ (fun w hw=>hw) (by kernel_rfl) ⟨rfl,rfl,rfl,by omega,rfl,rfl,rfl⟩ ?_
 rintro i wb e ds L ⟨rfl,rfl,rfl,hi,h0,h1,h5⟩
 simp (disch:=omega) only[push_cast,qE,h0,h1,h5]
 rw[Vc]
 simp (disch:=omega) only[push_cast,qE,h0,h1,h5]
 refine cdD (fun hlt=>?_) (fun hge=>?_)
 rotate_left
 ·simp (disch:=omega) only[push_cast,qE,h0,h1,h5]
  exact finIs (by simp) rfl
 obtain ⟨b,rfl,hat⟩:=h i (by omega)
 have s0:At wb b (i * 4) [.bool false]:=by simpa using hat.sub 0 _ rfl
 have s1:At wb b (i * 4+1) [i64 (1000+k)]:=hat.sub 1 _ rfl
 have s2:At wb b (i * 4+2) [str []]:=hat.sub 2 _ rfl
 have s3:At wb b (i * 4+3) [.slice none 0 0]:=hat.sub 3 _ rfl
 simp (disch:=omega) only[push_cast,qE,h0,h1,h5]
 rw[Vb]
 simp (disch:=omega) only[push_cast,qE,h0,h1,h5]
 refine ldF Shp.eq s1 (by simp) ?_
 simp (disch:=omega) only[push_cast,qE,h0,h1,h5,ne_eq,not_true_eq_false,decide_false]
 refine ldF Shp.eq s0 (by simp) ?_
 simp (disch:=omega) only[push_cast,qE,h0,h1,h5,ne_eq,not_true_eq_false,decide_false]
 refine ldF Shp.eq s2 (by simp) ?_
 simp (disch:=omega) only[push_cast,qE,h0,h1,h5,ne_eq,not_true_eq_false,decide_false]
 refine ldF Shp.eq s3 (by simp) ?_
 simp (disch:=omega) only[push_cast,qE,h0,h1,h5,ne_eq,not_true_eq_false,decide_false]
 rw[Vc]
 simp (disch:=omega) only[push_cast,qE,h0,h1,h5,ne_eq,not_true_eq_false,decide_false]
 exact ⟨i+1,_,fun w hw=>hw,⟨rfl,rfl,rfl,by omega,h0,h1,uu⟩,by omega⟩
def marks (i:Nat):Nat→List Value
 | 0=>[]
 | k+1=>marks i k++markC i
theorem marks_len (i:Nat):∀ k,(marks i k).length=k * 4
 | 0=>rfl
 | k+1=>by rw[marks,qA,marks_len i k]; simp[markC]; omega
def Rw.mrk (x:Rw) (i k:Nat):Rw:={ x with cs:=marks i k++x.cs.drop (k * 4) }
theorem Rw.mrk_zero (x:Rw) (i:Nat):x.mrk i 0=x:=by
 unfold Rw.mrk
 simp[marks]
theorem Rw.mrk_succ {x:Rw} (h:x.OK) (i k:Nat) (hk:k < x.n):splice (x.mrk i k).cs (k * 4) (markC i)=(x.mrk i (k+1)).cs:=by
 rcases h with ⟨h1,h2,h3⟩|⟨h1,h2,h3,h4⟩
 ·omega
 show splice (marks i k++x.cs.drop (k * 4)) (k * 4) (markC i)=marks i (k+1)++x.cs.drop ((k+1) * 4)
 unfold splice
 have hl:=marks_len i k
 have e1:(marks i k++x.cs.drop (k * 4)).take (k * 4)=marks i k:=by
  rw[← hl,List.take_left]
 have e2:(marks i k++x.cs.drop (k * 4)).drop (k * 4+(markC i).length)=x.cs.drop ((k+1) * 4):=by
  rw[← List.drop_drop]
  have:(marks i k++x.cs.drop (k * 4)).drop (k * 4)=x.cs.drop (k * 4):=by rw[← hl,List.drop_left]
  rw[this,List.drop_drop]
  congr 1
  simp[markC]
  omega
 rw[e1,e2,marks,List.append_assoc]
theorem marks_get (i:Nat):∀ {n k:Nat},k < n→((marks i n).drop (k * 4)).take 4=markC i
 | 0,k,h=>by omega
 | n+1,k,h=>by
  rw[marks]
  rcases Nat.lt_or_ge k n with hk|hk
  ·rw[List.drop_append_of_le_length (by rw[marks_len]; omega),List.take_append_of_le_length (by rw[List.length_drop,marks_len]; omega)]
   exact marks_get i hk
  ·obtain rfl:k=n:=by omega
   rw[← marks_len i k,List.drop_left]
   rfl
def mrkd:Nat→List Rw→List Rw
 | _,[]=>[]
 | j,x::l=>x.mrk j x.n::mrkd (j+1) l
theorem mrkd_append:∀ (l m:List Rw) (j:Nat),mrkd j (l++m)=mrkd j l++mrkd (j+l.length) m
 | [],m,j=>by simp[mrkd]
 | x::l,m,j=>by
  rw[List.cons_append,mrkd,mrkd,mrkd_append l m (j+1),qN,show j+1+l.length=j+(l.length+1) by omega]
  rfl
theorem rw_split1 {l:List Rw} {i:Nat} {x:Rw} (h:l[i]?=some x):l.take (i+1)=l.take i++[x]:=by
 rw[List.take_add_one,h]
 rfl
set_option maxHeartbeats 1000000
set_option maxHeartbeats 1600000
set_option maxHeartbeats 4000000
def RowK (wb:World) (e:TypeId) (size:Nat) (P0:Own→Prop) (L M:Own) (v:Value) (n:Nat) (xs:List Value):Prop :=
 (xs.length=n * size∧∃ (b c:Nat) (cs:List Value),v=.slice (some ⟨b,0,none⟩) n c∧L=(b,Obj.cells cs.toArray e (0,0))::M∧n≤c∧c≤maxLen∧c * size≤cs.length∧cs.take (n * size)=xs∧∀ cs':List Value,cs'.length=cs.length→cs'.take (n * size)=xs→P0 [(b,Obj.cells cs'.toArray e (0,0))]) ∨
  (∃ M0:Own,P0 M0∧RowO wb e size L (M0++M) v n xs)
theorem RowK.over {wb:World} {e:TypeId} {size n:Nat} {P0:Own→Prop} {L M:Own} {v:Value} {xs:List Value} (p:Nat×Obj) (h:RowK wb e size P0 L M v n xs):∃ L'',RowK wb e size P0 L'' (p::M) v n xs∧∀ w,Sy wb (p::L) w→Sy wb L'' w:=by
 rcases h with ⟨h0,b,c,cs,rfl,rfl,h1⟩|⟨M0,h1,h2⟩
 ·exact ⟨_,.inl ⟨h0,b,c,cs,rfl,rfl,h1⟩,fun w hw=>hw.perm (List.Perm.swap _ _ _)⟩
 ·obtain ⟨L2,q1,q2⟩:=RowO.over p h2
  obtain ⟨R,rfl,hR⟩:=RowO.unframe q1
  exact ⟨R++(M0++p::M),.inr ⟨M0,h1,RowO.frame hR⟩,fun w hw=>(q2 w hw).perm (List.Perm.append_left R List.perm_middle.symm)⟩
theorem RowK.shrink {wb:World} {e:TypeId} {size n:Nat} {P0:Own→Prop} {L M:Own} {v:Value} {xs:List Value} (p:Nat×Obj) (h:RowK wb e size P0 L (p::M) v n xs) (hp:wb.heap.size≤p.1):∃ L'',RowK wb e size P0 L'' M v n xs∧∀ w,Sy wb L w→Sy wb L'' w:=by
 rcases h with ⟨h0,b,c,cs,rfl,rfl,h1⟩|⟨M0,h1,h2⟩
 ·exact ⟨_,.inl ⟨h0,b,c,cs,rfl,rfl,h1⟩,fun w hw=>hw.mid [_] [p] (fun q hq=>by rw[List.mem_singleton.1 hq]; exact hp)⟩
 ·obtain ⟨R,rfl,hR⟩:=RowO.unframe h2
  refine ⟨R++(M0++M),.inr ⟨M0,h1,RowO.frame hR⟩,fun w hw=>?_⟩
  rw[← List.append_assoc] at hw ⊢
  exact hw.mid (R++M0) [p] (fun q hq=>by rw[List.mem_singleton.1 hq]; exact hp)
theorem RowK.ends {wb:World} {e:TypeId} {size n:Nat} {P0:Own→Prop} {L M:Own} {v:Value} {xs:List Value} (h:RowK wb e size P0 L M v n xs):∃ M0,P0 M0∧∀ w,Sy wb L w→Sy wb (M0++M) w:=by
 rcases h with ⟨h0,b,c,cs,rfl,rfl,h1,h2,h3,h4,h5⟩|⟨M0,h1,h2⟩
 ·exact ⟨_,h5 cs rfl h4,fun w hw=>hw⟩
 ·obtain ⟨h0,⟨q1,q2,q3⟩|⟨b,cap,cs,q1,q2,q3,_⟩⟩:=h2
  ·exact ⟨M0,h1,fun w hw=>by rw[← q3]; exact hw⟩
  ·refine ⟨M0,h1,fun w hw=>?_⟩
   rw[q2] at hw
   exact hw.left (A:=[_]) (fun p hp=>by rw[List.mem_singleton.1 hp]; exact q3)
theorem appendK {P:Program} {wb:World} {L M:Own} {P0:Own→Prop} {t ty e:TypeId} {z:Value} {size bytes n m c:Nat} {v:Value} {xs news:List Value} {a:Addr} {K:Value→World→Own→Prop}
 (ht:P.underlying t=some (.slice e)) (hi:(P.info? e).map (fun i=>(i.zero,i.size,i.bytes))=some (some z,size,bytes)) (hzs:z.cells.size=size) (hsz0:0 < size) (hm:0 < m)
 (hrow:RowK wb e size P0 L M v n xs) (hl:news.length=m * size) (hr:CanRead wb L a news) (h1:∀ u∈news,u.oneCell'=true) (h63:n+m≤maxLen) (hbytes:(n+m) * bytes≤140737488355328)
 (hK:∀ v' L',RowK wb e size P0 L' M v' (n+m) (xs++news)→K v' wb L'):ValX P (Builtin.append_ #[t,t] ty #[v,.slice (some a) m c]) wb L (tag K):=by
 rcases hrow with ⟨hxl,b,c0,cs,rfl,rfl,hnc,hcm,hcl,hct,hP⟩|⟨M0,hP,hro⟩
 ·obtain ⟨inf,hinf,i1,i2,i3⟩:∃ inf,P.info? e=some inf∧inf.zero=some z∧inf.size=size∧inf.bytes=bytes:=by
   cases hh:P.info? e with
   | none=>rw[hh] at hi; cases hi
   | some inf=>rw[hh] at hi; simp at hi; exact ⟨inf,rfl,hi.1,hi.2.1,hi.2.2⟩
  subst i2; subst i3
  have h63':((n+m:Nat):Int)≤9223372036854775807:=by simp only[maxLen] at h63; omega
  intro w hw
  have hnews:=hr w hw
  have hbo:=hw.own b _ (List.mem_cons_self ..)
  have hcells:∀ j u,xs[j]?=some u→w.cell? ((⟨b,0,none⟩:Addr).add j)=some u:=by
   intro j u hu
   have hadd:(⟨b,0,none⟩:Addr).add j=⟨b,j,none⟩:=by unfold Addr.add; split<;>simp_all
   rw[hadd]
   simp only[World.cell?,hbo]
   rw[← hct,List.getElem?_take] at hu
   split at hu
   ·simpa using hu
   ·cases hu
  rcases Nat.lt_or_ge c0 (n+m) with hg|hroom
  ·have hrun:=run_append_grow (P:=P) w t ty e inf z ht hinf i1 ⟨b,0,none⟩ n c0 xs hxl hcells a m c news hl hnews hg h63' (growslice_fits hg hbytes)
   have hge:=grownCap_ge w (n+m) c0 e
   have hle:=grownCap_le_maxLen w (n+m) c0 e h63
   refine ⟨_,_,wb,(w.heap.size,.cells (xs.toArray++news.toArray++Builtin.zeroCells z.cells (grownCap w (n+m) c0 e - (n+m))) e)::(b,Obj.cells cs.toArray e (0,0))::M,hrun,hw.drewn.new _,hK _ _ (.inr ⟨[(b,Obj.cells cs.toArray e (0,0))],hP cs rfl hct,⟨by simp[hxl,hl,Nat.add_mul],.inr ⟨w.heap.size,grownCap w (n+m) c0 e,xs++news++(Builtin.zeroCells z.cells (grownCap w (n+m) c0 e - (n+m))).toList,rfl,?_,hw.size,hge,hle,?_,?_⟩⟩⟩)⟩
   ·simp
   ·rw[qA,qA,hxl,hl,Array.length_toList,zeroCells_length,hzs,← Nat.add_mul,← Nat.add_mul,Nat.add_sub_cancel' hge]
   ·rw[Nat.add_mul,← hxl,← hl,← qA,List.take_left]
  ·have hfit:n * inf.size+news.length≤cs.length:=by rw[hl,← Nat.add_mul]; exact Nat.le_trans (Nat.mul_le_mul_right _ hroom) hcl
   have hrun:=run_append_room (P:=P) w t ty e inf ht hinf b n c0 cs.toArray hbo a m c news hl hnews h1 hroom (un hfit)
   have hlen2:(xs++news++cs.drop (n * inf.size+news.length)).length=cs.length:=by
    simp only[qA,List.length_drop,hxl]; omega
   refine ⟨_,_,wb,(b,.cells (xs++news++cs.drop (n * inf.size+news.length)).toArray e (0,0))::M,hrun,?_,hK _ _ (.inl ⟨by simp[hxl,hl,Nat.add_mul],b,c0,xs++news++cs.drop (n * inf.size+news.length),rfl,rfl,hroom,hcm,by rw[hlen2]; exact hcl,?_,fun cs' q1 q2=>hP cs' (by rw[q1,hlen2]) ?_⟩)⟩
   ·have h2:=hw.set (i:=0) (b:=b) (o:=.cells cs.toArray e (0,0)) (.cells (xs++news++cs.drop (n * inf.size+news.length)).toArray e (0,0)) (by simp)
    simp only[List.set_cons_zero] at h2
    have h3:w.setRow b (cs.toArray.toList.take (n * inf.size)++news++cs.toArray.toList.drop (n * inf.size+news.length)).toArray={ w with heap:=w.heap.setIfInBounds b (.cells (xs++news++cs.drop (n * inf.size+news.length)).toArray e (0,0)) }:=by
     unfold World.setRow
     congr 1
     apply Array.ext_getElem?
     intro j
     rw[Array.getElem?_modify,Array.getElem?_setIfInBounds]
     have hlt:=(Array.getElem?_eq_some_iff.1 hbo).1
     split
     ·rename_i hj; subst hj; rw[hbo]; simp[hct,hlt]
     ·rfl
    rw[h3]; exact h2
   ·rw[Nat.add_mul,← hxl,← hl,← qA,List.take_left]
   ·have:cs'.take (n * inf.size)=(cs'.take ((n+m) * inf.size)).take (n * inf.size):=by
     rw[List.take_take,Nat.min_eq_left (Nat.mul_le_mul_right _ (Nat.le_add_right _ _))]
    rw[this,q2,← hxl,List.take_left]
 ·exact appendI ht hi hzs hro hl hr h1 h63 hbytes (fun v' L' h _=>hK v' L' (.inr ⟨M0,hP,h⟩))
theorem RowK.reads {wb:World} {e ty:TypeId} {size n:Nat} {P0:Own→Prop} {L M:Own} {v:Value} {xs vs:List Value} {b:Nat} (h:RowK wb e size P0 L ((b,Obj.cells vs.toArray ty (0,0))::M) v n xs):CanRead wb L ⟨b,0,none⟩ vs:=by
 refine CanRead.of_own (e:=ty) (cs:=vs) (n:=vs.length) ?_ rfl (List.take_length ..)
 rcases h with ⟨h0,b0,c,cs,rfl,rfl,h1⟩|⟨M0,h1,h2⟩
 ·exact .tail _ (.head _)
 ·exact RowO.mem h2 (qR _ (.head _))
end Go.Proofs.YtilejcofleeeiaaGreatDoor
