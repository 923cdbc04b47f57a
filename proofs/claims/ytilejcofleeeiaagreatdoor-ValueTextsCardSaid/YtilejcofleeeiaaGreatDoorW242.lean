/- YtilejcofleeeiaaGreatDoor: walks, part 242: strings.Cut at one byte: no variable is read. -/
import Derived.Test.YtilejcofleeeiaaGreatDoorW231
namespace Go.Proofs.YtilejcofleeeiaaGreatDoor
open Go Go.K
open Nat renaming reduceEqDiff → qE
open List renaming length_cons → qN, length_append → qA, length_nil → qO
set_option maxRecDepth 100000
set_option linter.unusedVariables false
set_option linter.unusedSimpArgs false
set_option maxHeartbeats 4000000
def bytesP (s:List UInt8) (k wd:Int) (p:Nat):PV (List UInt8):=(rawV s p).and fun t r=>if k=14∧(t.length:Int)≠wd then .no 8 p else .ok t r
theorem hasPre (l p:List UInt8):Lib.hasPrefix l p=p.isPrefixOf l:=rfl
theorem convX_weak {P:Program} {s d:TypeId} {a:Option Addr} {n c:Nat} {wb:World} {L L':Own} {K:Value→World→Own→Prop} (hs:∀ w,Sy wb L w→Sy wb L' w) (h:ConvX P s d (.slice a n c) wb L' (tag K)):ConvX P s d (.slice a n c) wb L (tag K):=valX_weak (K:=K) hs h
theorem shl4b {P:Program} {K:Value→Prop} (t:TypeId) (x y:Operand) (n:Nat) (h:n < 16):PureX P (binV .shl t x y (.int .u8 n) (.int .u64 4)) (tag K)=K (.int .u8 (16 * (n:Int))):=by
 have e:IntKind.u8.wrap ((n:Int) * 2 ^ min (4:Int).toNat IntKind.u8.bits)=16 * (n:Int):=by
  rw[show min (4:Int).toNat IntKind.u8.bits=4 from rfl]
  have:∀ k:Fin 16,IntKind.u8.wrap ((k.val:Int) * 2 ^ 4)=16 * (k.val:Int):=by decide +kernel
  exact this ⟨n,h⟩
 rw[bshl .u8 .u64 t x y n 4 (by decide),e]
theorem or4b {P:Program} {K:Value→Prop} (t:TypeId) (x y:Operand) (a b:Nat) (ha:a < 16) (hb:b < 16):PureX P (binV .or t x y (.int .u8 (16 * (a:Int))) (.int .u8 b)) (tag K)=K (.int .u8 ((UInt8.ofNat (16 * a+b)).toNat:Int)):=by
 have e:bits .or .u8 (16 * (a:Int)) b=((UInt8.ofNat (16 * a+b)).toNat:Int):=by
  have:∀ i j:Fin 16,bits .or .u8 (16 * (i.val:Int)) (j.val:Int)=((UInt8.ofNat (16 * i.val+j.val)).toNat:Int):=by decide +kernel
  exact this ⟨a,ha⟩ ⟨b,hb⟩
 rw[← e]
 exact px (fun w=>rfl) K
theorem digAt_ok {s:List UInt8} {q r d:Nat} (h:digAt s q=.ok d r):r=q+1:=by
 unfold digAt at h
 split at h
 ·cases h
 ·cases h; rfl
structure BbI (w0:World) (pb:Nat) (s:List UInt8) (p:Nat) (M:Own) (b3:Nat) (r:PV (List UInt8)) (q:Nat) (wb:World) (e:Env) (ds:List Deferred) (L:Own):Prop where
 hw:wb=w0
 hds:ds=[]
 hq:q≤s.length
 h0:e 0=pPs pb
 h3:e 3=.pointer (some ⟨b3,0,none⟩)
 h5:e 5=i64 p
 o:∃ bs R m,L=oPs pb s q::(R++M)∧RowO w0 5 1 R [] (e 6) bs.length (bytesV bs)∧bs.length≤q∧s.length - q < m∧r=(hexV s m q).and fun l r=>.ok (bs++l) r
theorem bytes_walk (wb w:World) (lo pb:Nat) (s:List UInt8) (p:Nat) (M:Own) (f:Fld) (a:Option Addr) (c:Nat) (hs:s.length≤65536) (hp:p≤s.length) (hpb:wb.heap.size≤pb) (hM:∀ b∈M,wb.heap.size≤b.1) (hw:Sy wb (oPs pb s p::M) w) :
 Calls Tryz.prog 71 #[pPs pb,.agg (f.tcells a c).toArray] w (PVR wb pb s M (bytesP s f.k f.wd p) fun t v K=>v=str t∧K=[]):=by
 refine enterB (args:=[pPs pb,.agg (f.tcells a c).toArray]) Tryz.func71 rfl Tryz.ntmps71 (congrArg Array.toList Tryz.results71) (by kernel_rfl) (by simp) hw ?_
 simp (disch:=omega) only[push_cast,qE,Fld.tcells]
 refine newI (fun b3 hb3 hn3=>?_)
 simp (disch:=omega) only[push_cast,qE,Fld.tcells]
 refine lOn Shp.eq mem1 rfl ?_
 refine sp ?_
 refine drawQT (by kernel_rfl) (by kernel_rfl) mixed (by kernel_rfl) ?_
 refine sp ?_
 refine lOn Shp.eq mem1 rfl ?_
 refine sp ?_
 refine lOn Shp.eq mem1 rfl ?_
 refine sp ?_
 refine qcallV en_105 (qcallX_is _ (fun w' _=>hasPrefix_walk w' (s.drop p) [120,34]) ?_)
 refine sp ?_
 rw[Vc]
 refine sp ?_
 rw[hasPre]
 refine cdB (fun hno=>?_) (fun hyes=>?_)
 ·refine sp ?_
  refine lOn Shp.eq mem1 rfl ?_
  refine sp ?_
  refine callV en_33 (callX_fail p ?_)
  refine sp ?_
  refine fun w' hw'=>PVR.fall [_,oPs pb s p] ?_ (fun b hb=>?_) hw'
  ·unfold bytesP rawV mustV
   rw[if_neg (by intro h; rw[h] at hno; cases hno)]
   rfl
  ·simp only[List.mem_cons,List.mem_nil_iff,or_false] at hb
   rcases hb with rfl|rfl
   ·exact hb3
   ·exact hpb
 have hpre:[120,34].isPrefixOf (s.drop p)=true:=by simpa using hyes
 have hp2:p+2≤s.length:=by
  have:=(List.isPrefixOf_iff_prefix.1 hpre).length_le
  simp only[qN,qO,List.length_drop] at this
  omega
 have hr0:rawV s p=(hexV s (s.length+1) (p+2)).and fun l r=>.ok ([]++l) r:=by
  unfold rawV mustV
  rw[if_pos hpre,PV.and_ok]
  simp only[List.nil_append,qN,qO]
  cases hexV s (s.length+1) (p+(0+1+1))<;>rfl
 refine sp ?_
 refine lOn Shp.eq mem1 rfl ?_
 refine sp ?_
 refine sXa 1 rfl Siz.eq rfl rfl ?_
 refine sp ?_
 obtain ⟨o3,ho3⟩:∃ o,o=(qb1 b3 f a c):=⟨_,rfl⟩
 have hM3:∀ b∈o3::M,wb.heap.size≤b.1:=fun b hb=>by
  rcases List.mem_cons.1 hb with rfl|hb
  ·rw[ho3]; exact hb3
  ·exact hM b hb
 rw[Vb]
 refine sp ?_
 refine loopW (G:=Nat) (BbI wb pb s p (o3::M) b3 (rawV s p)) (fun q=>s.length - q) (p+2) (oPs pb s (p+2)::(o3::M)) (fun w hw=>by rw[ho3,oPs,Int.natCast_add]; exact (by simpa [splice] using hw.perm (List.Perm.swap _ _ _):Sy wb _ w)) (by kernel_rfl) ⟨rfl,rfl,by omega,rfl,rfl,rfl,[],[],_,rfl,⟨rfl,.inl ⟨rfl,rfl,rfl⟩⟩,Nat.zero_le _,by omega,hr0⟩ ?_
 clear hw hr0 hn3
 rintro q wb e ds L ⟨rfl,rfl,hq,h0,h3,h5,⟨bs,R,m,rfl,hR,hbl,hm,hr⟩⟩
 obtain ⟨m,rfl⟩:∃ k,m=k+1:=⟨m - 1,by omega⟩
 obtain ⟨va,vc,h6⟩:=hR.is_slice
 rw[h6] at hR
 have hRn:∀ b∈R,wb.heap.size≤b.1:=hR.new (by simp)
 have hnew:∀ q',∀ b∈oPs pb s q'::(R++o3::M),wb.heap.size≤b.1:=fun q' b hb=>by
  rcases List.mem_cons.1 hb with rfl|hb
  ·exact hpb
  ·exact (List.mem_append.1 hb).elim (hRn b) (hM3 b)
 have hmv:∀ {K:Own} {w':World},Sy wb (K++(R++o3::M)) w'→Sy wb ((K++(R++[o3]))++M) w':=fun h=>by simpa [List.append_assoc] using h
 have hnk:∀ {K:Own},(∀ b∈K,wb.heap.size≤b.1)→∀ b∈K++(R++[o3]),wb.heap.size≤b.1:=fun hK b hb=>by
  rcases List.mem_append.1 hb with hb|hb
  ·exact hK b hb
  ·rcases List.mem_append.1 hb with hb|hb
   ·exact hRn b hb
   ·rw[List.mem_singleton.1 hb,ho3]; exact hb3
 rw[Vb]
 simp (disch:=omega) only[push_cast,qE,h0,h3,h5,h6]
 refine callV en_102 (cIs (fun w' hw'=>byte_walk w' pb s q (At.of_own hw' mem0 rfl)) ?_)
 simp (disch:=omega) only[push_cast,qE,h0,h3,h5,h6]
 by_cases h34:s[q]?=some 34
 ·have hlt:q < s.length:=(List.getElem?_eq_some_iff.1 h34).1
  have hgc:((s.getD q 0).toNat:Int)=34:=by rw[getD_at hlt] at h34; rw[Option.some.inj h34]; rfl
  have hr2:bytesP s f.k f.wd p=if f.k=14∧(bs.length:Int)≠f.wd then .no 8 p else .ok bs (q+1):=by
   unfold bytesP
   rw[hr,hexV,if_pos h34]
   simp only[PV.and_ok,List.append_nil]
  refine gT rfl (fun _=>?_) (fun h=>absurd hlt h)
  simp (disch:=omega) only[push_cast,qE,h0,h3,h5,h6]
  rw[Vc]
  simp (disch:=omega) only[push_cast,qE,h0,h3,h5,h6]
  refine cdD (fun _=>?_) (fun h=>absurd hgc h)
  simp (disch:=omega) only[push_cast,qE,h0,h3,h5,h6]
  refine lOn Shp.eq mem0 rfl ?_
  simp (disch:=omega) only[push_cast,qE,h0,h3,h5,h6]
  refine sXa 0 rfl Siz.eq rfl rfl ?_
  simp (disch:=omega) only[push_cast,qE,h0,h3,h5,h6]
  have m3:(qb1 b3 f a c)∈R++o3::M:=by first|(rw[← ho3]; exact List.mem_append_right _ (.head _))|(subst ho3; exact List.mem_append_right _ (.head _))
  have fin:(f.k=14→(bs.length:Int)=f.wd)→∀ w',Sy wb (oPs pb s (q+1)::(R++o3::M)) w'→PVR wb pb s M (bytesP s f.k f.wd p) (fun t v K=>v=str t∧K=[]) (.returned (str bs)) w':=fun h w' hw' =>
   PVR.leaf _ [] (by rw[hr2,if_neg (fun ⟨x,y⟩=>y (h x))]) (by omega) ⟨rfl,rfl⟩ (by simp) ((by simpa [List.append_assoc] using hw':Sy wb ([oPs pb s (q+1)]++((R++[o3])++M)) w').mid [_] (R++[o3]) (hnk (K:=[]) (by simp)))
  have conv:∀ {src:TypeId} {K:Value→World→Own→Prop},Tryz.prog.underlying src=some (.slice 5)→K (str bs) wb (R++(oPs pb s (q+1)::(o3::M)))→ConvX Tryz.prog src 9 (.slice va bs.length vc) wb ((pb,Obj.cells #[str s,.int .i64 ((q:Int)+1)] 74 (0,0))::(R++o3::M)) (tag K):=fun hsrc hK =>
   convX_weak (fun w hw=>by
    have:Sy wb (oPs pb s (q+1)::(R++o3::M)) w:=by rw[oPs,Int.natCast_add]; exact hw
    exact this.perm List.perm_middle.symm) (convS hsrc Tryz.underlying5 Tryz.underlying9 (RowO.frame hR) hK)
  refine lOn Shp.eq (.tail _ m3) rfl ?_
  simp (disch:=omega) only[push_cast,qE,h0,h3,h5,h6]
  refine gT rfl (fun hk=>?_) (fun hk=>?_)
  ·simp (disch:=omega) only[push_cast,qE,h0,h3,h5,h6]
   refine lOn Shp.eq (.tail _ m3) rfl ?_
   simp (disch:=omega) only[push_cast,qE,h0,h3,h5,h6]
   rw[Vc]
   simp (disch:=omega) only[push_cast,qE,h0,h3,h5,h6]
   refine cdD (fun hne=>?_) (fun heq=>?_)
   ·simp (disch:=omega) only[push_cast,qE,h0,h3,h5,h6]
    refine callV en_33 (callX_fail p ?_)
    refine sp ?_
    refine fun w' hw'=>PVR.fall ([oPs pb s (q+1)]++(R++[o3])) (by rw[hr2,if_pos ⟨hk,hne⟩]) (hnk (K:=[oPs pb s (q+1)]) (fun b hb=>by rw[List.mem_singleton.1 hb]; exact hpb)) (hmv (K:=[oPs pb s (q+1)]) ?_)
    rw[oPs,Int.natCast_add]; exact hw'
   ·simp (disch:=omega) only[push_cast,qE,h0,h3,h5,h6]
    refine conv un_54 ?_
    refine sp ?_
    exact fun w' hw'=>fin (fun _=>Decidable.not_not.1 heq) w' (hw'.perm List.perm_middle)
  ·simp (disch:=omega) only[push_cast,qE,h0,h3,h5,h6]
   rw[Vc]
   simp (disch:=omega) only[push_cast,qE,h0,h3,h5,h6]
   refine conv un_54 ?_
   refine sp ?_
   exact fun w' hw'=>fin (fun h=>absurd h hk) w' (hw'.perm List.perm_middle)
 have hx:hexV s (m+1) q=(digAt s q).and fun a r=>(digAt s r).and fun b r2=>(hexV s m r2).and fun l r3=>.ok (UInt8.ofNat (16 * a+b)::l) r3:=by rw[hexV,if_neg h34]
 rw[hx] at hr
 refine gT rfl (fun hlt=>?_) (fun hge=>?_)
 ·have hgc:¬ ((s.getD q 0).toNat:Int)=34:=fun h=>h34 (by rw[getD_at hlt,show s.getD q 0=34 from UInt8.toNat_inj.1 (by rw[show (34:UInt8).toNat=34 from rfl]; omega)])
  simp (disch:=omega) only[push_cast,qE,h0,h3,h5,h6]
  rw[Vc]
  simp (disch:=omega) only[push_cast,qE,h0,h3,h5,h6]
  refine cdD (fun h=>absurd h hgc) (fun _=>?_)
  simp (disch:=omega) only[push_cast,qE,h0,h3,h5,h6]
  refine callV en_106 (callX_pv (M:=R++o3::M) (fun w' hw'=>pdigit_walk wb w' pb s q (R++o3::M) hs hq hpb hw') (fun d q1 v K hr' hq' hS hK=>?_) (fun er q1 K hr' hK=>?_))
  rotate_left
  ·refine sp ?_
   exact fun w' hw'=>PVR.fall (K++(R++[o3])) (by unfold bytesP; rw[hr,hr']; rfl) (hnk hK) (hmv hw')
  obtain ⟨rfl,hd,rfl⟩:=hS
  simp (disch:=omega) only[push_cast,qE,h0,h3,h5,h6]
  refine Eq.mpr (shl4b _ _ _ d hd) ?_
  simp (disch:=omega) only[push_cast,qE,h0,h3,h5,h6]
  refine callV en_106 (callX_pv (M:=R++o3::M) (fun w' hw'=>pdigit_walk wb w' pb s q1 (R++o3::M) hs hq' hpb hw') (fun d2 q2 v K hr2 hq2 hS hK=>?_) (fun er q2 K hr2 hK=>?_))
  rotate_left
  ·refine sp ?_
   exact fun w' hw'=>PVR.fall (K++(R++[o3])) (by unfold bytesP; rw[hr,hr',PV.and_ok,hr2]; rfl) (hnk hK) (hmv hw')
  obtain ⟨rfl,hd2,rfl⟩:=hS
  simp (disch:=omega) only[push_cast,qE,h0,h3,h5,h6]
  refine Eq.mpr (or4b _ _ _ d d2 hd hd2) ?_
  simp (disch:=omega) only[push_cast,qE,h0,h3,h5,h6]
  refine bs_54_1 (newI fun b7 hb7 hn7=>?_)
  simp (disch:=omega) only[push_cast,qE,h0,h3,h5,h6]
  have e1:=digAt_ok hr'
  have e2:=digAt_ok hr2
  refine valX_weak (L':=(b7,Obj.cells #[.int .u8 ((UInt8.ofNat (16 * d+d2)).toNat:Int)] 5 (0,0))::(R++(oPs pb s q2::(o3::M)))) (fun w hw=>hw.perm (List.Perm.cons _ List.perm_middle.symm)) (appendB (M:=oPs pb s q2::o3::M) [UInt8.ofNat (16 * d+d2)] un_54 infoU8 (RowO.frame hR) hb7 (by simp; omega) (fun v' L' h'=>?_))
  obtain ⟨R',rfl,hR'⟩:=RowO.unframe h'
  simp (disch:=omega) only[push_cast,qE,h0,h3,h5]
  refine ⟨q2,oPs pb s q2::(R'++o3::M),fun w hw=>?_,⟨rfl,rfl,hq2,h0,h3,h5,⟨bs++[UInt8.ofNat (16 * d+d2)],R',m,rfl,?_,by simp only[qA,qN,qO]; omega,by omega,?_⟩⟩,by omega⟩
  ·exact ((hw.mid R' [_] (C:=oPs pb s q2::o3::M) (fun p hp=>by rw[List.mem_singleton.1 hp]; exact hb7))).perm List.perm_middle
  ·exact hR'.cast (by rw[qA]) (bytesV_append _ _).symm
  ·rw[hr,hr',PV.and_ok,hr2,PV.and_ok,PV.and_and]
   simp only[PV.and_ok,List.append_assoc,List.singleton_append]
 ·simp (disch:=omega) only[push_cast,qE,h0,h3,h5,h6]
  rw[Vc]
  simp (disch:=omega) only[push_cast,qE,h0,h3,h5,h6]
  refine callV en_106 (callX_pv (M:=R++o3::M) (fun w' hw'=>pdigit_walk wb w' pb s q (R++o3::M) hs hq hpb hw') (fun d q1 v K hr' hq' hS hK=>?_) (fun er q1 K hr' hK=>?_))
  rotate_left
  ·refine sp ?_
   exact fun w' hw'=>PVR.fall (K++(R++[o3])) (by unfold bytesP; rw[hr,hr']; rfl) (hnk hK) (hmv hw')
  obtain ⟨rfl,hd,rfl⟩:=hS
  simp (disch:=omega) only[push_cast,qE,h0,h3,h5,h6]
  refine Eq.mpr (shl4b _ _ _ d hd) ?_
  simp (disch:=omega) only[push_cast,qE,h0,h3,h5,h6]
  refine callV en_106 (callX_pv (M:=R++o3::M) (fun w' hw'=>pdigit_walk wb w' pb s q1 (R++o3::M) hs hq' hpb hw') (fun d2 q2 v K hr2 hq2 hS hK=>?_) (fun er q2 K hr2 hK=>?_))
  rotate_left
  ·refine sp ?_
   exact fun w' hw'=>PVR.fall (K++(R++[o3])) (by unfold bytesP; rw[hr,hr',PV.and_ok,hr2]; rfl) (hnk hK) (hmv hw')
  obtain ⟨rfl,hd2,rfl⟩:=hS
  simp (disch:=omega) only[push_cast,qE,h0,h3,h5,h6]
  refine Eq.mpr (or4b _ _ _ d d2 hd hd2) ?_
  simp (disch:=omega) only[push_cast,qE,h0,h3,h5,h6]
  refine bs_54_1 (newI fun b7 hb7 hn7=>?_)
  simp (disch:=omega) only[push_cast,qE,h0,h3,h5,h6]
  have e1:=digAt_ok hr'
  have e2:=digAt_ok hr2
  refine valX_weak (L':=(b7,Obj.cells #[.int .u8 ((UInt8.ofNat (16 * d+d2)).toNat:Int)] 5 (0,0))::(R++(oPs pb s q2::(o3::M)))) (fun w hw=>hw.perm (List.Perm.cons _ List.perm_middle.symm)) (appendB (M:=oPs pb s q2::o3::M) [UInt8.ofNat (16 * d+d2)] un_54 infoU8 (RowO.frame hR) hb7 (by simp; omega) (fun v' L' h'=>?_))
  obtain ⟨R',rfl,hR'⟩:=RowO.unframe h'
  simp (disch:=omega) only[push_cast,qE,h0,h3,h5]
  refine ⟨q2,oPs pb s q2::(R'++o3::M),fun w hw=>?_,⟨rfl,rfl,hq2,h0,h3,h5,⟨bs++[UInt8.ofNat (16 * d+d2)],R',m,rfl,?_,by simp only[qA,qN,qO]; omega,by omega,?_⟩⟩,by omega⟩
  ·exact ((hw.mid R' [_] (C:=oPs pb s q2::o3::M) (fun p hp=>by rw[List.mem_singleton.1 hp]; exact hb7))).perm List.perm_middle
  ·exact hR'.cast (by rw[qA]) (bytesV_append _ _).symm
  ·rw[hr,hr',PV.and_ok,hr2,PV.and_ok,PV.and_and]
   simp only[PV.and_ok,List.append_assoc,List.singleton_append]
theorem indexLite_walk (w:World) (l:List UInt8) (c:UInt8):Calls Tryz.prog 166 #[str l,.int .u8 c.toNat] w (Rets w (Is (i64 (Lib.indexByte l c)))):=by
 have h:=Any.stringslite_IndexByte { laysIdx with } ⟨l.toArray⟩ (c.toNat:Int) w
 refine h.mono ?_
 rintro e w' ⟨rfl,rfl⟩
 refine ⟨_,rfl,Sy.refl _,?_⟩
 show i64 (Lib.indexByte l (((c.toNat:Int).toNat).toUInt8))=_
 rw[Int.toNat_natCast,show (c.toNat.toUInt8)=c from UInt8.ofNat_toNat]
theorem index_byte (c:UInt8):∀ l:List UInt8,Lib.index l [c]=Lib.indexByte l c
 | []=>rfl
 | b::l=>by
  unfold Lib.index Lib.indexByte
  rw[index_byte c l]
  have e:([c]:List UInt8).isPrefixOf (b::l)=(b == c):=by
   simp only[List.isPrefixOf,Bool.and_true]
   exact Bool.beq_comm
  rw[e]
theorem index1_walk (w:World) (l:List UInt8) (c:UInt8):Calls Tryz.prog 167 #[str l,str [c]] w (Rets w (Is (i64 (Lib.indexByte l c)))):=by
 refine enterT (args:=[str l,str [c]]) Tryz.func167 rfl Tryz.ntmps167 (congrArg Array.toList Tryz.results167) (by kernel_rfl) (by simp) (Sy.refl w) ?_
 refine sp ?_
 rw[Vb]
 refine sp ?_
 refine gF rfl (fun _=>?_) (fun h=>absurd h (by omega))
 refine sp ?_
 rw[Vc]
 refine sp ?_
 refine cdD (fun he=>?_) (fun he=>?_)
 ·refine sp ?_
  refine finIs (by simp) ?_
  rw[← he]
  simp[Lib.indexByte]
 ·refine sp ?_
  rw[Vc]
  refine sp ?_
  refine cdD (fun _=>?_) (fun h=>absurd (by omega) h)
  refine sp ?_
  refine Eq.mpr (is_9 [c] .i64 0 (by decide) (show (0:Int) < (1:Nat) by decide)) ?_
  rw[show ([c]:List UInt8).getD (0:Int).toNat 0=c from rfl]
  refine sp ?_
  refine callV en_166 (cIs (fun w' _=>indexLite_walk w' l c) ?_)
  refine sp ?_
  exact finIs (by simp) rfl
theorem ib_lt (c:UInt8):∀ l:List UInt8,Lib.indexByte l c < (l.length:Int)∧-1≤Lib.indexByte l c
 | []=>by unfold Lib.indexByte; decide
 | b::l=>by
  have ih:=ib_lt c l
  unfold Lib.indexByte
  rw[qN]
  split
  ·omega
  ·split<;>omega
theorem cutLite_walk (w:World) (l:List UInt8) (c:UInt8) (hs:l.length≤1000000):Calls Tryz.prog 152 #[str l,str [c]] w (Rets w (Is (.tuple #[str (Lib.cut l [c]).1,str (Lib.cut l [c]).2.1,.bool (Lib.cut l [c]).2.2]))):=by
 refine enterT (args:=[str l,str [c]]) Tryz.func152 rfl Tryz.ntmps152 (congrArg Array.toList Tryz.results152) (by kernel_rfl) (by simp) (Sy.refl w) ?_
 refine sp ?_
 refine callV en_167 (cIs (fun w' _=>index1_walk w' l c) ?_)
 refine sp ?_
 rw[Vc]
 refine sp ?_
 refine cdD (fun h0=>?_) (fun h0=>?_)
 ·obtain ⟨i,hi⟩:∃ i:Nat,Lib.indexByte l c=i:=⟨(Lib.indexByte l c).toNat,by omega⟩
  have hlt:=(ib_lt c l).1
  rw[hi] at hlt
  refine sp ?_
  refine drawQT (by kernel_rfl) (by kernel_rfl) mixed (by kernel_rfl) ?_
  have e1:((i:Int)+(0+1)).toNat=i+1:=by omega
  simp (disch:=omega) only[push_cast,qE,hi,Int.toNat_natCast,e1]
  refine finIs (by simp) ?_
  unfold Lib.cut
  rw[index_byte,hi,if_pos (by omega)]
  simp
 ·refine sp ?_
  refine finIs (by simp) ?_
  unfold Lib.cut
  rw[index_byte,if_neg h0]
theorem cut1_walk (w:World) (l:List UInt8) (c:UInt8) (hs:l.length≤1000000):Calls Tryz.prog 129 #[str l,str [c]] w (Rets w (Is (.tuple #[str (Lib.cut l [c]).1,str (Lib.cut l [c]).2.1,.bool (Lib.cut l [c]).2.2]))):=by
 refine enterT (args:=[str l,str [c]]) Tryz.func129 rfl Tryz.ntmps129 (congrArg Array.toList Tryz.results129) (by kernel_rfl) (by simp) (Sy.refl w) ?_
 refine sp ?_
 refine callV en_152 (cIs (fun w' _=>cutLite_walk w' l c hs) ?_)
 refine sp ?_
 exact finIs (by simp) rfl
end Go.Proofs.YtilejcofleeeiaaGreatDoor
