/- YtdmdgkpjjpijdaaGreatDoor: walks, part 192: the reference's: how many fields a field is, and the place to which a way leads. -/
import Derived.Test.YtdmdgkpjjpijdaaGreatDoorW170
import Derived.Test.YtdmdgkpjjpijdaaGreatDoorW60
namespace Go.Proofs.YtdmdgkpjjpijdaaGreatDoor
open Go Go.K
open Nat renaming reduceEqDiff → qE
open List renaming mem_cons → qM, mem_append → qP, mem_nil_iff → qI, getElem?_eq_getElem → qH
set_option maxRecDepth 100000
set_option linter.unusedVariables false
set_option linter.unusedSimpArgs false
set_option maxHeartbeats 4000000
theorem mk_field {nm:List UInt8} {nl:Bool} {t:Ty} {q:Nat} {K1 K2:Own} {a a2:Option Addr} {c c2:Nat} (hn:nm.length≤9223372036854775807) (hq:q≤1000000) (h1:OwS (t.l.map (·.1)) K1 a c) (h2:OwPS (t.l.map (·.2)) K2 a2 c2) :
 FieldV (mkF nm nl t q) (.tuple #[.agg #[str nm,.bool nl,i64 t.k,i64 t.wd,i64 t.id,i64 t.ix,.slice a t.l.length c],.agg #[i64 q,.slice a2 t.l.length c2]]) (K1++K2):=by
 refine ⟨a,c,a2,c2,K1,K2,?_,rfl,OwS.toF (f:=(mkF nm nl t q).1) h1 hn,OwPS.toP (x:=(mkF nm nl t q).2) h2 hq⟩
 simp[mkF,Fld.cells,Fld.nm,Fld.nl,Fld.k,Fld.wd,Fld.id,Fld.ix,Fld.sub,Sp.at_,Sp.kids]
theorem field_step (d:Nat) (hT:TypeOK d):FieldOK (d+1):=by
 intro wb w rb s p M hQ hd
 have hs:=hQ.hs
 have hrb:=hQ.hrb
 refine enterB (args:=[.pointer (some ⟨rb,0,none⟩)]) Tryz.func48 rfl Tryz.ntmps48 (congrArg Array.toList Tryz.results48) (by kernel_rfl) (by simp) hQ.hw ?_
 refine sp ?_
 refine newI (fun b2 hb2 hn2=>?_)
 refine sp ?_
 refine newI (fun b3 hb3 hn3=>?_)
 refine sp ?_
 have hble:blP s p≤s.length:=runP_le hQ.hp
 refine callV en_77 (callX_pr (fun w' hw'=>word_walk wb w' rb s p (oSp b3 0 none 0 0::oFi b2 (.mk [] false 0 0 0 0 []) none 0::M) hs hQ.hp hrb (hw'.perm (?_:List.Perm (oSp b3 0 none 0 0::oFi b2 (.mk [] false 0 0 0 0 []) none 0::oRd rb s p::M) _))) (fun nm q v p1 K hr hq hp1 hS hK=>?_) (fun q K hr hK=>?_))
 ·exact pC
 rotate_left
 ·refine sp ?_
  refine fun w' hw'=>PRet.fall (K++[oSp b3 0 none 0 0,oFi b2 (.mk [] false 0 0 0 0 []) none 0]) (by rw[pField,hr,PR.and_no]) (fun b hb=>?_) (by simpa only[List.append_assoc,List.cons_append,List.nil_append] using hw')
  simp only[qP,qM,qI,or_false] at hb
  rcases hb with hb|rfl|rfl
  ·exact hK b hb
  ·exact hb3
  ·exact hb2
 have e1:=hS.1
 have e2:=hS.2
 subst e1
 subst e2
 have g1:=pWord_le hble hr
 have hnm:=word_ne hr
 refine sp ?_
 have hX:∀ b∈oSp b3 0 none 0 0::oFi b2 (.mk [] false 0 0 0 0 []) none 0::M,wb.heap.size≤b.1:=fun b hb=>by
  simp only[qM] at hb
  rcases hb with rfl|rfl|hb
  ·exact hb3
  ·exact hb2
  ·exact hQ.hM b hb
 refine callV en_78 (callX_pr (fun w' hw'=>hT wb w' rb s p1 _ ⟨hs,hQ.says,hQ.lib,hp1,hrb,hX,hw'⟩ (by omega)) (fun t q2 v p2 K hr2 hq2 hp2 hS hK=>?_) (fun q2 K hr2 hK=>?_))
 rotate_left
 ·refine sp ?_
  refine fun w' hw'=>PRet.fall (K++[oSp b3 0 none 0 0,oFi b2 (.mk [] false 0 0 0 0 []) none 0]) (by rw[pField,hr,PR.and_ok,← hq,hr2,PR.and_no]) (fun b hb=>?_) (by simpa only[List.append_assoc,List.cons_append,List.nil_append] using hw')
  simp only[qP,qM,qI,or_false] at hb
  rcases hb with hb|rfl|rfl
  ·exact hK b hb
  ·exact hb3
  ·exact hb2
 (refine xe6 (hS) (fun a c a2 c2 K1 K2 hz=>?_); have ez:=hz.1; subst ez; have ez:=hz.2.1; subst ez; have hO1:=hz.2.2.1; have hO2:=hz.2.2.2; clear hz)
 have g2:=pTyped_goes (pField_goes s d) _ _ _ (by rw[hq]; exact g1.2.1) hr2
 refine sp ?_
 refine newI (fun b6 hb6 hn6=>?_)
 refine sp ?_
 refine sXa 0 rfl Siz.eq rfl rfl ?_
 refine sp ?_
 have hle2:blP s p2≤s.length:=runP_le hp2
 have hL:∀ (o6 o3 o2:Obj) (p9:Nat),∀ b∈(b6,o6)::oRd rb s p9::((K1++K2)++((b3,o3)::(b2,o2)::M)),wb.heap.size≤b.1:=fun o6 o3 o2 p9 b hb=>by
  simp only[qM,qP] at hb hK
  rcases hb with rfl|rfl|hb|rfl|rfl|hb
  ·exact hb6
  ·exact hrb
  ·exact hK b hb
  ·exact hb3
  ·exact hb2
  ·exact hQ.hM b hb
 have hst:∀ (o3 o2:Obj) (p9:Nat),Stab wb (oTp b6 t.k t.wd t.id t.ix a t.l.length c::oRd rb s p9::((K1++K2)++((b3,o3)::(b2,o2)::M))) [oTp b6 t.k t.wd t.id t.ix a t.l.length c]:=fun o3 o2 p9=>Stab.of (.cons_cons _ (List.nil_sublist _)) (hL _ _ _ _)
 refine freeTs [0,1,2,5,6,7] [3,4,8,9] [[3,4,8,9]] [oTp b6 t.k t.wd t.id t.ix a t.l.length c] (by kernel_rfl) mixed (by kernel_rfl) (by kernel_rfl) (fun h=>by cases h) (hst _ _ _) ?_
 refine sp ?_
 refine lAg Shp.eq mem0 rfl rfl ?_
 refine sp ?_
 intro tt htt
 simp only[qM,qI,or_false] at htt
 subst htt
 refine sp ?_
 have hst2:∀ (o3 o2:Obj) (p9:Nat),Stab wb (oRd rb s p9::oTp b6 t.k t.wd t.id t.ix a t.l.length c::((K1++K2)++((b3,o3)::(b2,o2)::M))) [oTp b6 t.k t.wd t.id t.ix a t.l.length c]:=fun o3 o2 p9=>Stab.of (.cons _ (.cons_cons _ (List.nil_sublist _))) (fun b hb=>by
  simp only[qM,qP] at hb hK
  rcases hb with rfl|rfl|hb|rfl|rfl|hb
  ·exact hrb
  ·exact hb6
  ·exact hK b hb
  ·exact hb3
  ·exact hb2
  ·exact hQ.hM b hb)
 have hst3:∀ (o3 o2:Obj) (p9:Nat),Stab wb ((b2,o2)::(b3,o3)::oTp b6 t.k t.wd t.id t.ix a t.l.length c::oRd rb s p9::((K1++K2)++M)) [oTp b6 t.k t.wd t.id t.ix a t.l.length c]:=fun o3 o2 p9=>Stab.of (.cons _ (.cons _ (.cons_cons _ (List.nil_sublist _)))) (fun b hb=>by
  simp only[qM,qP] at hb hK
  rcases hb with rfl|rfl|rfl|rfl|hb|hb
  ·exact hb2
  ·exact hb3
  ·exact hb6
  ·exact hrb
  ·exact hK b hb
  ·exact hQ.hM b hb)
 refine callV en_37 (callX_two (fun L'=>s[blP s p2]?=some 63∧L'=oRd rb s (blP s p2+1)::oTp b6 t.k t.wd t.id t.ix a t.l.length c::((K1++K2)++(oSp b3 0 none 0 0::oFi b2 (.mk [] false 0 0 0 0 []) none 0::M))) (fun L'=>s[blP s p2]?≠some 63∧L'=oRd rb s (blP s p2)::oTp b6 t.k t.wd t.id t.ix a t.l.length c::((K1++K2)++(oSp b3 0 none 0 0::oFi b2 (.mk [] false 0 0 0 0 []) none 0::M))) (fun w' hw'=>take_walk wb w' rb s p2 _ 63 63 rfl hs hp2 (hw'.perm (List.Perm.swap _ _ _))) (fun L' hL'=>?_) (fun L' hL'=>?_))
 ·have h:=hL'.1
  have e:=hL'.2
  subst e
  try simp (disch:=omega) only[push_cast,qE]
  refine ⟨hst2 _ _ _,?_⟩
  try simp (disch:=omega) only[push_cast,qE]
  refine ⟨hst2 _ _ _,storeX_weak (L':=oFi b2 (.mk [] false 0 0 0 0 []) none 0::oSp b3 0 none 0 0::oTp b6 t.k t.wd t.id t.ix a t.l.length c::oRd rb s (blP s p2+1)::((K1++K2)++M)) (fun w hw=>hw.perm (?_:List.Perm (oRd rb s (blP s p2+1)::oTp b6 t.k t.wd t.id t.ix a t.l.length c::((K1++K2)++(oSp b3 0 none 0 0::oFi b2 (.mk [] false 0 0 0 0 []) none 0::M))) _)) (sXa 0 rfl Siz.eq rfl rfl ?_)⟩
  ·exact pC
  try simp (disch:=omega) only[push_cast,qE]
  refine ⟨hst3 _ _ _,sXa 1 rfl Siz.eq rfl rfl ?_⟩
  try simp (disch:=omega) only[push_cast,qE]
  refine ⟨hst3 _ _ _,?_⟩
  try simp (disch:=omega) only[push_cast,qE]
  refine lAg Shp.eq mem0 rfl rfl ?_
  try simp (disch:=omega) only[push_cast,qE]
  refine lAg Shp.eq mem1 rfl rfl ?_
  try simp (disch:=omega) only[push_cast,qE]
  refine fun w' hw'=>PRet.leaf (S:=fun x _ v K=>FieldV x v K) _ ((blP s p2+1)) (K1++K2) (x:=mkF nm true t (blP s p)) (q:=blP s ((blP s p2+1))) ?_ rfl ?_ (mk_field (by omega) (by omega) hO1 hO2) hK ?_
  ·have hq63:pSign s 63 q2=some (blP s (blP s p2+1)):=by
    unfold pSign
    rw[← hq2,if_pos h]
   rw[pField,hr,PR.and_ok,← hq,hr2,PR.and_ok,hq63]
  ·have:=(List.getElem?_eq_some_iff.1 h).1
   omega
  ·exact Sy.left (A:=[_,_,_]) hw' (fun b hb=>by
    simp only[qM,qI,or_false] at hb
    rcases hb with rfl|rfl|rfl
    ·exact hb2
    ·exact hb3
    ·exact hb6)
 ·have h:=hL'.1
  have e:=hL'.2
  subst e
  try simp (disch:=omega) only[push_cast,qE]
  refine ⟨hst2 _ _ _,?_⟩
  try simp (disch:=omega) only[push_cast,qE]
  refine ⟨hst2 _ _ _,storeX_weak (L':=oFi b2 (.mk [] false 0 0 0 0 []) none 0::oSp b3 0 none 0 0::oTp b6 t.k t.wd t.id t.ix a t.l.length c::oRd rb s (blP s p2)::((K1++K2)++M)) (fun w hw=>hw.perm (?_:List.Perm (oRd rb s (blP s p2)::oTp b6 t.k t.wd t.id t.ix a t.l.length c::((K1++K2)++(oSp b3 0 none 0 0::oFi b2 (.mk [] false 0 0 0 0 []) none 0::M))) _)) (sXa 0 rfl Siz.eq rfl rfl ?_)⟩
  ·exact pC
  try simp (disch:=omega) only[push_cast,qE]
  refine ⟨hst3 _ _ _,sXa 1 rfl Siz.eq rfl rfl ?_⟩
  try simp (disch:=omega) only[push_cast,qE]
  refine ⟨hst3 _ _ _,?_⟩
  try simp (disch:=omega) only[push_cast,qE]
  refine lAg Shp.eq mem0 rfl rfl ?_
  try simp (disch:=omega) only[push_cast,qE]
  refine lAg Shp.eq mem1 rfl rfl ?_
  try simp (disch:=omega) only[push_cast,qE]
  refine fun w' hw'=>PRet.leaf (S:=fun x _ v K=>FieldV x v K) _ ((blP s p2)) (K1++K2) (x:=mkF nm false t (blP s p)) (q:=blP s ((blP s p2))) ?_ rfl ?_ (mk_field (by omega) (by omega) hO1 hO2) hK ?_
  ·have hq63:pSign s 63 q2=none:=by
    unfold pSign
    rw[← hq2,if_neg h]
   rw[pField,hr,PR.and_ok,← hq,hr2,PR.and_ok,hq63]
   have hb2:blP s (blP s p2)=blP s p2:=by unfold blP; exact runP_idem _ _ _
   show PR.ok _ q2=PR.ok _ (blP s (blP s p2))
   rw[hb2,hq2]
  ·exact hle2
  ·exact Sy.left (A:=[_,_,_]) hw' (fun b hb=>by
    simp only[qM,qI,or_false] at hb
    rcases hb with rfl|rfl|rfl
    ·exact hb2
    ·exact hb3
    ·exact hb6)
theorem fields_ok:∀ d,FieldOK d
 | 0=>fun wb w rb s p M hQ hd=>by omega
 | d+1=>field_step d (typeR_step d (one_step d (fields_ok d)) (many_step d (fields_ok d)))
theorem many_ok (d:Nat):ManyOK d:=many_step d (fields_ok d)
structure PS where
 l:List Fld
 nt:List NoteT
 e:Int
 at_:Nat
def parseP (t:List UInt8):PS :=
 if 65536 < t.length then ⟨[],[],4,65536⟩ else match pSchema t with
 | .no q=>⟨[],[],8,q⟩
 | .ok x _=>if (checkP (x.1.map (·.1)) x.2).1=0 then ⟨x.1.map (·.1),x.2,0,0⟩ else ⟨[],[],(checkP (x.1.map (·.1)) x.2).1,foundP (x.1.map (·.2)) (checkP (x.1.map (·.1)) x.2).2.1 0⟩
structure PF where
 f:Fld
 e:Int
 at_:Nat
def noF:Fld:=.mk [] false 0 0 0 0 []
def parseF (t:List UInt8):PF :=
 if 65536 < t.length then ⟨noF,4,65536⟩ else match pOne t with
 | .no q=>⟨noF,8,q⟩
 | .ok x _=>if (checkP [x.1] []).1=0 then ⟨x.1,0,0⟩ else ⟨noF,(checkP [x.1] []).1,foundP [x.2] (checkP [x.1] []).2.1 0⟩
theorem parse_may {t:List UInt8} (h:(parseP t).e=0):mayP (parseP t).l (parseP t).nt=true∧(parseP t).at_=0:=by
 unfold parseP at h ⊢
 split
 ·rename_i h1; rw[if_pos h1] at h; cases h
 rename_i h1
 rw[if_neg h1] at h
 split
 ·rename_i q h2; rw[h2] at h; cases h
 rename_i x q h2
 rw[h2] at h
 simp only at h ⊢
 split
 ·rename_i h3
  refine ⟨?_,rfl⟩
  unfold mayP
  simpa using h3
 ·rename_i h3
  rw[if_neg h3] at h
  exact absurd h h3
def HasK (w:World) (K:Own):Prop:=∀ p∈K,w.heap[p.1]?=some p.2
theorem HasK.of_sy {wb w:World} {K L:Own} (h:Sy wb L w) (hK:∀ p∈K,p∈L):HasK w K:=fun p hp=>h.own p.1 p.2 (hK p hp)
def NatsAt (w:World) (a:Option Addr) (p:List Nat):Prop:=p=[]∨∃ b off,a=some ⟨b,off,none⟩∧∀ i n:Nat,p[i]?=some n→At w b (off+i) [i64 n]
structure FdI (w0:World) (K:Own) (l0:List Sp) (pa:Option Addr) (p:List Nat) (pc:Nat) (i:Nat) (wb:World) (e:Env) (ds:List Deferred) (L:Own):Prop where
 hw:wb=w0
 hds:ds=[]
 hL:L=[]
 o:∃ (l:List Sp) (K':Own) (a:Option Addr) (c:Nat) (q:Nat),(∀ x∈K',x∈K)∧OwPS l K' a c∧e 0=.slice a l.length c∧okW l (p.drop i)∧e 5=i64 q∧foundP l0 p 0=foundP l (p.drop i) q
 il:i≤p.length
 h8:e 8=.slice pa p.length pc
 h9:e 9=i64 p.length
 h10:e 10=i64 i
theorem found_walk (w:World) (K:Own) (hK:HasK w K) (l:List Sp) (a:Option Addr) (c:Nat) (hO:OwPS l K a c) (pa:Option Addr) (p:List Nat) (pc:Nat) (hp:NatsAt w pa p) (hpl:p.length≤9223372036854775807) (hok:okW l p) :
 Calls Tryz.prog 40 #[.slice a l.length c,.slice pa p.length pc] w (Rets w (Is (i64 (foundP l p 0)))):=by
 refine enterB (args:=[.slice a l.length c,.slice pa p.length pc]) Tryz.func40 rfl Tryz.ntmps40 (congrArg Array.toList Tryz.results40) (by kernel_rfl) (by simp) (Sy.refl w) ?_
 refine sp ?_
 rw[Vb]
 refine sp ?_
 refine loopW (G:=Nat) (FdI w K l pa p pc) (fun i=>p.length - i) 0 _ (fun w hw=>hw) (by kernel_rfl) ⟨rfl,rfl,rfl,⟨l,K,a,c,0,fun x hx=>hx,hO,rfl,un hok,rfl,by simp⟩,by omega,rfl,rfl,rfl⟩ ?_
 rintro i wb e ds L ⟨rfl,rfl,rfl,⟨l',K',a',c',q,hK',hO',h0,hok',h5,hf⟩,hil,h8,h9,h10⟩
 simp (disch:=omega) only[push_cast,qE,h0,h5,h8,h9,h10]
 rw[Vc]
 simp (disch:=omega) only[push_cast,qE,h0,h5,h8,h9,h10]
 refine cdD (fun hlt=>?_) (fun hge=>?_)
 ·have hlt':i < p.length:=by omega
  obtain ⟨k,hk⟩:∃ k,p[i]?=some k:=⟨_,qH hlt'⟩
  have hd:p.drop i=k::p.drop (i+1):=by
   rw[List.drop_eq_getElem_cons hlt']
   rw[qH hlt'] at hk
   cases hk
   rfl
  rw[hd] at hok' hf
  obtain ⟨s,hs,hok2⟩:=hok'
  have hf2:foundP l p 0=foundP s.kids (p.drop (i+1)) s.at_:=by rw[hf,foundP,hs]
  have hkl:k < l'.length:=(List.getElem?_eq_some_iff.1 hs).1
  rcases hp with h0p|⟨pb,poff,rfl,hpa⟩
  ·rw[h0p] at hlt'
   exact absurd hlt' (by simp)
  have hpk:=hpa i k hk
  obtain ⟨rfl,rfl,rfl,rfl⟩|⟨b,cs,K2,rfl,rfl,hc1,hc2,hkk⟩:=(OwPS_iff _ _ _ _).1 hO'
  ·simp at hs
  obtain ⟨K3,a3,c3,hK3,hO3,hv0,hv1⟩:=OwPK.get k hkk hs
  have hlen:(cs.take (l'.length * 2)).length=l'.length * 2:=hkk.len
  have hv0':cs[k * 2]?=some (i64 s.at_):=by
   rw[List.getElem?_take_of_lt (by omega)] at hv0
   exact hv0
  have hv1':cs[k * 2+1]?=some (.slice a3 s.kids.length c3):=by
   rw[List.getElem?_take_of_lt (by omega)] at hv1
   exact hv1
  have hb:=hK _ (hK' _ (.head _))
  have at1:∀ (j:Nat) (v:Value),cs[j]?=some v→At wb b j [v]:=fun j v hj=>⟨_,_,_,hb,by
   obtain ⟨g1,g2⟩:=List.getElem?_eq_some_iff.1 hj
   simp only[List.length_cons,List.length_nil]
   rw[List.drop_eq_getElem_cons (un g1)]
   simp[g2]⟩
  simp (disch:=omega) only[push_cast,qE,h0,h5,h8,h9,h10]
  rw[Vb]
  simp (disch:=omega) only[push_cast,qE,h0,h5,h8,h9,h10]
  refine ldF Shp.eq (un hpk) (by simp) ?_
  simp (disch:=omega) only[push_cast,qE,h0,h5,h8,h9,h10,Int.toNat_natCast]
  refine ldF Shp.eq (by simpa [Nat.mul_comm] using at1 _ _ hv0') (by simp) ?_
  simp (disch:=omega) only[push_cast,qE,h0,h5,h8,h9,h10,Int.toNat_natCast]
  refine ldF Shp.eq (by simpa [Nat.mul_comm] using at1 _ _ hv1') (by simp) ?_
  simp (disch:=omega) only[push_cast,qE,h0,h5,h8,h9,h10,Int.toNat_natCast]
  refine ⟨i+1,_,fun w hw=>hw,⟨rfl,rfl,rfl,⟨s.kids,K3,a3,c3,s.at_,fun x hx=>hK' _ (.tail _ (hK3 x hx)),hO3.toS,rfl,hok2,rfl,hf2⟩,by omega,h8,h9,rfl⟩,by omega⟩
 ·obtain rfl:i=p.length:=by omega
  rw[List.drop_length,foundP] at hf
  simp (disch:=omega) only[push_cast,qE,h0,h5,h8,h9,h10]
  rw[hf]
  exact fun w' hw'=>⟨_,rfl,hw',rfl⟩
def CntOK (n:Nat):Prop:=∀ (w:World) (lo:Nat) (f:Fld) (a:Option Addr) (c:Nat),lo≤w.heap.size→Rd w lo a f.sub→f.sub.length≤9223372036854775807→cF f≤1000000→SizeOf.sizeOf f < n→Calls Tryz.prog 76 #[fldV f a c] w (Rets w (Is (i64 (cF f))))
structure CnI (w0:World) (b1:Nat) (f:Fld) (a:Option Addr) (c:Nat) (i:Nat) (wb:World) (e:Env) (ds:List Deferred) (L:Own):Prop where
 hw:wb=w0
 hds:ds=[]
 il:i≤f.sub.length
 h3:e 3=i64 ((1+cL (f.sub.take i):Nat):Int)
 h8:e 8=.slice a f.sub.length c
 h9:e 9=i64 f.sub.length
 h10:e 10=i64 i
 hL:L=[(qb0 b1 f a c)]
theorem cL_append:∀ a b:List Fld,cL (a++b)=cL a+cL b
 | [],b=>by rw[List.nil_append,cL]; omega
 | f::a,b=>by rw[List.cons_append,cL,cL,cL_append a b]; omega
theorem cL_take {l:List Fld} {i:Nat} {g:Fld} (h:l[i]?=some g):cL (l.take (i+1))=cL (l.take i)+cF g:=by
 rw[List.take_add_one,h,cL_append]
 simp only[Option.toList,cL]
 omega
theorem cL_take_le (l:List Fld) (i:Nat):cL (l.take i)≤cL l:=by
 have h:=cL_append (l.take i) (l.drop i)
 rw[List.take_append_drop] at h
 omega
theorem count_step (n:Nat) (ih:CntOK n):CntOK (n+1):=by
 intro w lo f a c hlo hr hl hc hsz
 refine enterT (args:=[fldV f a c]) Tryz.func76 rfl Tryz.ntmps76 (congrArg Array.toList Tryz.results76) (by kernel_rfl) (by simp) (Sy.refl w) ?_
 simp (disch:=omega) only[push_cast,qE,fldV]
 refine newI (fun b1 hb1 hn1=>?_)
 simp (disch:=omega) only[push_cast,qE]
 have hL1:∀ b∈[(qb0 b1 f a c)],w.heap.size≤b.1:=fun b hb=>by rw[List.mem_singleton.1 hb]; exact hb1
 refine lOn Shp.eq mem0 rfl ?_
 simp (disch:=omega) only[push_cast,qE]
 rw[Vb]
 simp (disch:=omega) only[push_cast,qE]
 refine loopW (G:=Nat) (CnI w b1 f a c) (fun i=>f.sub.length - i) 0 _ (fun w hw=>hw) (by kernel_rfl) ⟨rfl,rfl,Nat.zero_le _,by simp[cL,upd],rfl,rfl,rfl,rfl⟩ ?_
 rintro i wb e ds L ⟨rfl,rfl,hil,h3,h8,h9,h10,rfl⟩
 rw[cF_eq] at hc
 simp (disch:=omega) only[push_cast,qE,h3,h8,h9,h10]
 rw[Vc]
 simp (disch:=omega) only[push_cast,qE,h3,h8,h9,h10]
 refine cdD (fun hlt=>?_) (fun hge=>?_)
 ·obtain ⟨g,hg⟩:∃ g,f.sub[i]?=some g:=⟨_,qH (by omega)⟩
  obtain ⟨b,off,rfl,hb⟩:∃ b off,a=some ⟨b,off,none⟩∧b < lo:=by
   obtain ⟨f0,l0,h0⟩:∃ f' l',f.sub=f'::l':=List.exists_cons_of_ne_nil (by intro h; rw[h] at hg; simp at hg)
   rw[h0] at hr
   exact hr.some_of
  obtain ⟨fa,fc,x1,x2,x3,x4,x5,x6⟩:=hr.get i hg
  have hct:=cL_take hg
  have hcl:=cL_take_le f.sub (i+1)
  have hsz2:SizeOf.sizeOf g < n:=by
   have h1:=List.sizeOf_lt_of_mem (List.mem_of_getElem? hg)
   have h2:SizeOf.sizeOf f.sub < SizeOf.sizeOf f:=by cases f; simp only[Fld.sub,Fld.mk.sizeOf_spec]; omega
   omega
  simp (disch:=omega) only[push_cast,qE,h3,h8,h9,h10]
  rw[Vb]
  simp (disch:=omega) only[push_cast,qE,h3,h8,h9,h10]
  refine ldAggF Shp.eq x2 rfl (out_of (fun p hp=>Nat.lt_of_lt_of_le (Nat.lt_of_lt_of_le hb hlo) (hL1 p hp))) ?_
  simp (disch:=omega) only[push_cast,qE,h3,h8,h9,h10,Fld.cells]
  refine newI (fun b5 hb5 hn5=>?_)
  simp (disch:=omega) only[push_cast,qE,h3,h8,h9,h10]
  refine sXa 0 rfl Siz.eq rfl rfl ?_
  simp (disch:=omega) only[push_cast,qE,h3,h8,h9,h10]
  refine lAg Shp.eq mem0 rfl rfl ?_
  simp (disch:=omega) only[push_cast,qE,h3,h8,h9,h10]
  have hL5:∀ p∈[(qb0 b5 g fa fc),(b1,Obj.cells #[str f.nm,.bool f.nl,i64 f.k,i64 f.wd,i64 f.id,i64 f.ix,.slice (some ⟨b,off,none⟩) f.sub.length c] 37 (0,0))],wb.heap.size≤p.1:=(nC hb5 hL1)
  refine callV en_76 (cIs (fun w' hw'=>ih w' lo g fa fc (Nat.le_trans hlo hw'.size) (x6.sy hlo hw' (fun p hp=>Nat.le_trans hlo (hL5 p hp))) (Nat.le_trans x3 x5) (by omega) hsz2) ?_)
  simp (disch:=omega) only[push_cast,qE,h3,h8,h9,h10]
  refine ⟨i+1,_,fun w' hw'=>Sy.left (A:=[_]) hw' (fun p hp=>by rw[List.mem_singleton.1 hp]; exact hb5),⟨rfl,rfl,by omega,?_,h8,h9,uu,rfl⟩,by omega⟩
  simp only[upd]
  show i64 _=i64 _
  congr 1
  omega
 ·obtain rfl:i=f.sub.length:=by omega
  simp (disch:=omega) only[push_cast,qE,h3,h8,h9,h10]
  refine finIs hL1 ?_
  rw[cF_eq,List.take_length]
  rfl
theorem count_walk0:∀ n,CntOK n
 | 0=>fun w lo f a c _ _ _ _ h=>by omega
 | n+1=>count_step n (count_walk0 n)
theorem like_back:∀ {l:List Fld} {k:List Sp} {n:Nat} {s:Sp},LikeL l k→k[n]?=some s→∃ f,l[n]?=some f∧Like f s
 | [],[],n,s,h,hs=>by simp at hs
 | [],x::k,n,s,h,hs=>by rw[LikeL] at h; exact h.elim
 | g::l,[],n,s,h,hs=>by simp at hs
 | g::l,x::k,0,s,h,hs=>by
  rw[LikeL] at h
  simp only[List.getElem?_cons_zero,Option.some.injEq] at hs
  subst hs
  exact ⟨g,rfl,h.1⟩
 | g::l,x::k,n+1,s,h,hs=>by
  rw[LikeL] at h
  simp only[List.getElem?_cons_succ] at hs ⊢
  exact like_back h.2 hs
theorem cF_le {l:List Fld} {n:Nat} {f:Fld} (h:l[n]?=some f):cL (l.take n)+cF f≤cL l:=by
 rw[← cL_take h]
 exact cL_take_le l (n+1)
structure PlI (w0:World) (lo:Nat) (l0:List Fld) (nv:Value) (pa:Option Addr) (path:List Nat) (pc:Nat) (L0:Own) (i:Nat) (wb:World) (e:Env) (ds:List Deferred) (L:Own):Prop where
 hw:wb=w0
 hds:ds=[]
 il:i≤path.length
 h1:e 1=nv
 h2:e 2=.slice pa path.length pc
 h15:e 15=.slice pa path.length pc
 h16:e 16=i64 path.length
 h17:e 17=i64 i
 o:∃ (l:List Fld) (a:Option Addr) (c:Nat) (sp:List Sp) (k:Nat),e 8=.slice a l.length c∧Rd w0 lo a l∧l.length≤c∧c≤9223372036854775807∧e 7=i64 k∧LikeL l sp∧okW sp (path.drop i)∧k+placeK l (path.drop i)=placeK l0 path∧cL l≤100000∧k≤100000 * i
 hL:L=L0
structure PlJ (w0:World) (l:List Fld) (a:Option Addr) (c n k i:Nat) (nv:Value) (pa:Option Addr) (path:List Nat) (pc:Nat) (L0:Own) (j:Nat) (wb:World) (e:Env) (ds:List Deferred) (L:Own):Prop where
 hw:wb=w0
 hds:ds=[]
 jl:j≤n
 h1:e 1=nv
 h2:e 2=.slice pa path.length pc
 h15:e 15=.slice pa path.length pc
 h16:e 16=i64 path.length
 h17:e 17=i64 i
 h8:e 8=.slice a l.length c
 h9:e 9=i64 i
 h10:e 10=i64 n
 h24:e 24=.slice a n c
 h25:e 25=i64 n
 h26:e 26=i64 j
 h7:e 7=i64 ((k+cL (l.take j):Nat):Int)
 hL:L=L0
theorem place_walk (w:World) (lo:Nat) (hlo:lo≤w.heap.size) (l:List Fld) (a:Option Addr) (c:Nat) (ya:Option Addr) (yn yc:Nat) (N:List Nat) (an:Option Addr) (cn:Nat) (pa:Option Addr) (path:List Nat) (pc:Nat) (sp:List Sp) (hr:Rd w lo a l) (hc:l.length≤c) (hc2:c≤9223372036854775807) (hN:NatsAt w an N) (hN2:N=preL sp) (hp:NatsAt w pa path) (hpl:path.length≤1000000) (hlk:LikeL l sp) (hok:okW sp path) (hne:path≠[]) (hcl:cL l≤100000) :
 Calls Tryz.prog 46 #[.agg #[.slice a l.length c,.slice ya yn yc],.slice an N.length cn,.slice pa path.length pc] w (Rets w (Is (i64 (foundP sp path 0)))):=by
 have hfin:=place_found path l sp 0 hlk hok hne
 refine enterT (args:=[.agg #[.slice a l.length c,.slice ya yn yc],.slice an N.length cn,.slice pa path.length pc]) Tryz.func46 rfl Tryz.ntmps46 (congrArg Array.toList Tryz.results46) (by kernel_rfl) (by simp) (Sy.refl w) ?_
 simp (disch:=omega) only[push_cast,qE]
 refine newI (fun b3 hb3 hn3=>?_)
 simp (disch:=omega) only[push_cast,qE]
 have hL3:∀ b∈[(qb4 b3 a l.length c ya yn yc)],w.heap.size≤b.1:=fun b hb=>by rw[List.mem_singleton.1 hb]; exact hb3
 refine lOn Shp.eq mem0 rfl ?_
 simp (disch:=omega) only[push_cast,qE]
 rw[Vb]
 simp (disch:=omega) only[push_cast,qE]
 refine loopW (G:=Nat) (PlI w lo l (.slice an N.length cn) pa path pc [(qb4 b3 a l.length c ya yn yc)]) (fun i=>path.length - i) 0 _ (fun w hw=>hw) (by kernel_rfl) ⟨rfl,rfl,Nat.zero_le _,rfl,rfl,rfl,rfl,rfl,⟨l,a,c,sp,0,rfl,hr,hc,hc2,rfl,hlk,hok,by simp,hcl,by omega⟩,rfl⟩ ?_
 clear hr hc hc2 hlk hok hcl
 rintro i wb e ds L ⟨rfl,rfl,hil,h1,h2,h15,h16,h17,⟨l',a',c',sp',k,h8,hr,hc,hc2,h7,hlk,hok,hk,hcl,hkl⟩,rfl⟩
 simp (disch:=omega) only[push_cast,qE,h1,h2,h7,h8,h15,h16,h17]
 rw[Vc]
 simp (disch:=omega) only[push_cast,qE,h1,h2,h7,h8,h15,h16,h17]
 refine cdD (fun hlt=>?_) (fun hge=>?_)
 rotate_left
 ·obtain rfl:i=path.length:=by omega
  rw[List.drop_length,placeK,Nat.add_zero] at hk
  rw[← hk,← hN2] at hfin
  have hkN:=(List.getElem?_eq_some_iff.1 hfin).1
  rcases hN with h0|⟨nb,noff,rfl,hNa⟩
  ·rw[h0] at hkN; exact absurd hkN (by simp)
  have hat:=hNa k _ hfin
  simp (disch:=omega) only[push_cast,qE,h1,h2,h7,h8,h15,h16,h17]
  refine ldF Shp.eq (un hat) (out_of (fun p hp=>Nat.lt_of_lt_of_le hat.lt (hL3 p hp))) ?_
  simp (disch:=omega) only[push_cast,qE,h1,h2,h7,h8,h15,h16,h17]
  exact finIs hL3 rfl
 have hlt':i < path.length:=by omega
 obtain ⟨n,hn⟩:∃ n,path[i]?=some n:=⟨_,qH hlt'⟩
 have hd:path.drop i=n::path.drop (i+1):=by
  rw[List.drop_eq_getElem_cons hlt']
  rw[qH hlt'] at hn
  cases hn
  rfl
 rw[hd] at hok hk
 obtain ⟨x,hx,hok2⟩:=hok
 obtain ⟨f,hf,hfx⟩:=like_back hlk hx
 have hnl:n < l'.length:=(List.getElem?_eq_some_iff.1 hf).1
 have hcf:=cF_le hf
 obtain ⟨b,off,rfl,hb⟩:∃ b off,a'=some ⟨b,off,none⟩∧b < lo:=by
  obtain ⟨f0,l0,h0⟩:∃ f' l2,l'=f'::l2:=List.exists_cons_of_ne_nil (by intro h; rw[h] at hf; simp at hf)
  rw[h0] at hr
  exact hr.some_of
 rcases hp with h0|⟨pb,poff,rfl,hpa⟩
 ·exact absurd h0 hne
 have hpn:=hpa i n hn
 simp (disch:=omega) only[push_cast,qE,h1,h2,h7,h8,h15,h16,h17]
 rw[Vb]
 simp (disch:=omega) only[push_cast,qE,h1,h2,h7,h8,h15,h16,h17]
 refine ldF Shp.eq (un hpn) (out_of (fun p hp=>Nat.lt_of_lt_of_le hpn.lt (hL3 p hp))) ?_
 simp (disch:=omega) only[push_cast,qE,h1,h2,h7,h8,h15,h16,h17]
 rw[Vb]
 simp (disch:=omega) only[push_cast,qE,h1,h2,h7,h8,h15,h16,h17]
 refine loopW (G:=Nat) (PlJ wb l' (some ⟨b,off,none⟩) c' n k i (.slice an N.length cn) (some ⟨pb,poff,none⟩) path pc [(qb4 b3 a l.length c ya yn yc)]) (fun j=>n - j) 0 _ (fun w hw=>hw) (by kernel_rfl) ⟨rfl,rfl,Nat.zero_le _,h1,h2,h15,h16,h17,us h8,uu,uu,uu,uu,uu,by simpa [upd,cL] using h7,rfl⟩ ?_
 clear h1 h2 h7 h8 h15 h16 h17
 rintro j wb e ds L ⟨rfl,rfl,hjl,h1,h2,h15,h16,h17,h8,h9,h10,h24,h25,h26,h7,rfl⟩
 simp (disch:=omega) only[push_cast,qE,h1,h2,h7,h8,h9,h10,h15,h16,h17,h24,h25,h26]
 rw[Vc]
 simp (disch:=omega) only[push_cast,qE,h1,h2,h7,h8,h9,h10,h15,h16,h17,h24,h25,h26]
 refine cdD (fun hlt2=>?_) (fun hge2=>?_)
 ·obtain ⟨g,hg⟩:∃ g,l'[j]?=some g:=⟨_,qH (by omega)⟩
  obtain ⟨fa,fc,x1,x2,x3,x4,x5,x6⟩:=hr.get j hg
  have hct:=cL_take hg
  have hcl2:=cL_take_le l' (j+1)
  simp (disch:=omega) only[push_cast,qE,h1,h2,h7,h8,h9,h10,h15,h16,h17,h24,h25,h26]
  rw[Vb]
  simp (disch:=omega) only[push_cast,qE,h1,h2,h7,h8,h9,h10,h15,h16,h17,h24,h25,h26]
  refine ldAggF Shp.eq x2 rfl (out_of (fun p hp=>Nat.lt_of_lt_of_le (Nat.lt_of_lt_of_le hb hlo) (hL3 p hp))) ?_
  simp (disch:=omega) only[push_cast,qE,h1,h2,h7,h8,h9,h10,h15,h16,h17,h24,h25,h26,Fld.cells]
  refine newI (fun b12 hb12 hn12=>?_)
  simp (disch:=omega) only[push_cast,qE,h1,h2,h7,h8,h9,h10,h15,h16,h17,h24,h25,h26]
  refine sXa 0 rfl Siz.eq rfl rfl ?_
  simp (disch:=omega) only[push_cast,qE,h1,h2,h7,h8,h9,h10,h15,h16,h17,h24,h25,h26]
  refine lAg Shp.eq mem0 rfl rfl ?_
  simp (disch:=omega) only[push_cast,qE,h1,h2,h7,h8,h9,h10,h15,h16,h17,h24,h25,h26]
  have hL5:∀ p∈(qb0 b12 g fa fc)::[(qb4 b3 a l.length c ya yn yc)],wb.heap.size≤p.1:=(nC hb12 hL3)
  refine callV en_76 (cIs (fun w' hw'=>count_walk0 _ w' lo g fa fc (Nat.le_trans hlo hw'.size) (x6.sy hlo hw' (fun p hp=>Nat.le_trans hlo (hL5 p hp))) (Nat.le_trans x3 x5) (by omega) (Nat.lt_succ_self _)) ?_)
  simp (disch:=omega) only[push_cast,qE,h1,h2,h7,h8,h9,h10,h15,h16,h17,h24,h25,h26]
  refine ⟨j+1,_,fun w' hw'=>Sy.left (A:=[_]) hw' (fun p hp=>by rw[List.mem_singleton.1 hp]; exact hb12),⟨rfl,rfl,by omega,h1,h2,h15,h16,h17,h8,h9,h10,h24,h25,uu,?_,rfl⟩,by omega⟩
  simp only[upd]
  show i64 _=i64 _
  congr 1
  omega
 ·obtain rfl:j=n:=by omega
  obtain ⟨fa,fc,x1,x2,x3,x4,x5,x6⟩:=hr.get j hf
  have hlast:=x2.sub 6 [.slice fa f.sub.length fc] rfl
  have hlk2:=(Like_iff _ _).1 hfx
  have hcf1:1≤cF f:=by rw[cF_eq]; omega
  have hcs:cL f.sub≤100000:=by rw[cF_eq] at hcf; omega
  simp (disch:=omega) only[push_cast,qE,h1,h2,h7,h8,h9,h10,h15,h16,h17]
  rw[Vc]
  simp (disch:=omega) only[push_cast,qE,h1,h2,h7,h8,h9,h10,h15,h16,h17]
  refine cdD (fun hm=>?_) (fun hm=>?_)
  ·obtain ⟨m,p2,hp2⟩:∃ m p2,path.drop (i+1)=m::p2:=List.exists_cons_of_ne_nil (by
    intro h
    have:=congrArg List.length h
    rw[List.length_drop,List.length_nil] at this
    omega)
   rw[hp2,placeK,hf] at hk
   simp only[Option.map_some,Option.getD_some] at hk
   simp (disch:=omega) only[push_cast,qE,h1,h2,h7,h8,h9,h10,h15,h16,h17]
   refine ldF Shp.eq (by simpa [Nat.add_assoc] using hlast) (out_of (fun p hp=>Nat.lt_of_lt_of_le (Nat.lt_of_lt_of_le hb hlo) (hL3 p hp))) ?_
   simp (disch:=omega) only[push_cast,qE,h1,h2,h7,h8,h9,h10,h15,h16,h17]
   refine ⟨i+1,_,fun w hw=>hw,⟨rfl,rfl,by omega,h1,h2,h15,h16,uu,⟨f.sub,fa,fc,x.kids,k+cL (l'.take j)+1,uu,x6,x3,x5,?_,hlk2,hok2,by rw[hp2]; omega,hcs,by omega⟩,rfl⟩,by omega⟩
   simp only[upd]
   show i64 _=i64 _
   congr 1
  ·have hp2:path.drop (i+1)=[]:=List.drop_of_length_le (by omega)
   rw[hp2,placeK] at hk
   simp (disch:=omega) only[push_cast,qE,h1,h2,h7,h8,h9,h10,h15,h16,h17]
   refine ldF Shp.eq (by simpa [Nat.add_assoc] using hlast) (out_of (fun p hp=>Nat.lt_of_lt_of_le (Nat.lt_of_lt_of_le hb hlo) (hL3 p hp))) ?_
   simp (disch:=omega) only[push_cast,qE,h1,h2,h7,h8,h9,h10,h15,h16,h17]
   refine ⟨i+1,_,fun w hw=>hw,⟨rfl,rfl,by omega,h1,h2,h15,h16,uu,⟨f.sub,fa,fc,x.kids,k+cL (l'.take j),uu,x6,x3,x5,us h7,hlk2,hok2,by rw[hp2,placeK]; omega,hcs,by omega⟩,rfl⟩,by omega⟩
end Go.Proofs.YtdmdgkpjjpijdaaGreatDoor
