/- YtilejcofleeeiaaGreatDoor: walks, part 238: a parser: any value. -/
import Derived.Test.YtilejcofleeeiaaGreatDoorW237
namespace Go.Proofs.YtilejcofleeeiaaGreatDoor
open Go Go.K
open Nat renaming reduceEqDiff → qE
open Go.Value renaming oneCell' → qC
open List renaming mem_cons → qM, length_append → qA, mem_nil_iff → qI
set_option maxRecDepth 100000
set_option linter.unusedVariables false
set_option linter.unusedSimpArgs false
set_option maxHeartbeats 4000000
theorem ZeV.leafV {nu:Bool} {num:Int} {tx:List UInt8} (h1:tx.length≤9223372036854775807) (h2 : -9223372036854775808≤num∧num < 9223372036854775808):ZeV (.mk nu num tx []) [⟨none,0,0,[]⟩] none 0:=by
 rw[ZeV]
 exact ⟨h1,h2,_,[],rfl,.inl ⟨rfl,rfl,rfl⟩,rfl,rfl,rfl,ZeK.nil⟩
theorem flatV_len {f:UInt8→List UInt8} (h:∀ c,1≤(f c).length):∀ l:List UInt8,l.length≤(l.flatMap f).length
 | []=>Nat.le_refl _
 | c::l=>by
  have:=flatV_len h l
  have:=h c
  rw[List.flatMap_cons,qA,List.length_cons]
  omega
theorem quote_len {s t:List UInt8} {p q:Nat} (h:quoteV s p=.ok t q):t.length≤s.length:=by
 unfold quoteV at h
 obtain ⟨_,r,_,h2⟩:=PV.and_eq_ok h
 have:=congrArg List.length (restV_some s _ _ _ _ h2).1
 have h3:=flatV_len (f:=charT) (fun c=>(char_len c).1) t
 rw[List.length_drop,qA] at this
 omega
theorem raw_len {s t:List UInt8} {k wd:Int} {p q:Nat} (h:bytesP s k wd p=.ok t q):t.length≤s.length:=by
 unfold bytesP at h
 obtain ⟨t',r,h1,h2⟩:=PV.and_eq_ok h
 split at h2
 ·cases h2
 cases h2
 unfold rawV at h1
 obtain ⟨_,r,_,h2⟩:=PV.and_eq_ok h1
 have:=congrArg List.length (hexV_some s _ _ _ _ h2)
 have h3:=flatV_len (f:=byteT) (fun c=>by simp[byteT]) t
 rw[List.length_drop,qA] at this
 omega
theorem mergeT {C T G:Prop} (h:(C→T)→G) (t:C→T):G:=h t
theorem value_step (d:Nat) (hP:PaOK d):PaOK (d+1):=by
 intro wb w lo pb s p M ind f a c hl hTb hlo hok hA hs hp hpb hM hw
 obtain ⟨row,hrow⟩:∃ row,rowP smallB s p=row:=⟨_,rfl⟩
 have hrun:runP smallB s p=p+row.length:=by rw[← hrow]; rfl
 have hrl:p+row.length≤s.length:=by rw[← hrun]; exact runP_le hp
 refine enterB (args:=[pPs pb,.agg (f.cells a c).toArray]) Tryz.func32 rfl Tryz.ntmps32 (congrArg Array.toList Tryz.results32) (by kernel_rfl) (by simp) hw ?_
 simp (disch:=omega) only[push_cast,qE,Fld.cells]
 refine newI (fun b3 hb3 hn3=>?_)
 simp (disch:=omega) only[push_cast,qE,Fld.cells]
 refine newI (fun b4 hb4 hn4=>?_)
 simp (disch:=omega) only[push_cast,qE,Fld.cells]
 refine callV en_66 (cIs (v:=str row) (fun w' hw'=>by rw[← hrow]; exact row_walk w' pb s p 67 smallB en_67 small_walk hs hp (At.of_own hw' mem2 rfl)) ?_)
 obtain ⟨o3,ho3⟩:∃ o,o=(qb0 b3 f a c):=⟨_,rfl⟩
 have n3:wb.heap.size≤o3.1:=by rw[ho3]; exact hb3
 have hnew:∀ x:Obj,∀ b∈(b4,x)::o3::oPs pb s p::M,wb.heap.size≤b.1:=fun x b hb=>by
  simp only[qM] at hb
  rcases hb with rfl|rfl|rfl|hb
  ·exact hb4
  ·exact n3
  ·exact hpb
  ·exact hM b hb
 have hpc:(p:Int)+(row.length:Int)=((p+row.length:Nat):Int):=(Int.natCast_add _ _).symm
 have hA4:FlAt wb lo f a c:=hA
 apply mergeT (C:=¬ (letsP f=true∧row=nullT∧opensB s (p+4)=false))
 case h =>
  intro tail
  by_cases hrn:row=nullT
  ·have hl4:row.length=4:=by rw[hrn]; rfl
   refine sp ?_
   refine gT rfl (fun _=>?_) (fun h=>absurd hrn h)
   refine sp ?_
   refine lOn Shp.eq mem2 rfl ?_
   refine sp ?_
   refine callV en_68 (cIs (v:=.bool (opensB s (p+4))) (fun w' hw'=>by
    have h:=named_walk2 w' pb s p (p+row.length) hs (At.of_own hw' mem2 rfl)
    rw[← hpc,hl4] at h
    rw[← hl4] at h ⊢
    exact h) ?_)
   refine sp ?_
   refine gbT rfl (fun hop=>?_) (fun hop=>?_)
   ·have hop:opensB s (p+4)=false:=by simpa using hop
    refine sp ?_
    refine lAg Shp.eq mem1 rfl rfl ?_
    refine sp ?_
    refine callV en_69 (cIs (fun w' hw'=>lets_walk w' lo (Nat.le_trans hlo hw'.size) f a c (hA.sy hlo hw' (by have z:=hnew; rw[ho3] at z; exact z _))) ?_)
    refine sp ?_
    rw[Vc]
    refine sp ?_
    refine cdB (fun hle=>?_) (fun hle=>?_)
    ·refine sp ?_
     refine lOn Shp.eq mem2 rfl ?_
     refine sp ?_
     refine sXa 2 rfl Siz.eq rfl rfl ?_
     refine sp ?_
     refine sXa 0 rfl Siz.eq rfl rfl ?_
     refine sp ?_
     refine lAg Shp.eq mem0 rfl rfl ?_
     refine sp ?_
     refine fun w' hw'=>PVR.leaf (x:=.mk true 0 [] []) (q:=p+4) _ [] ?_ (by omega) ⟨_,_,_,ZeV.leafV (by simp) (by omega),rfl,rfl⟩ (by simp) ?_
     ·rw[readV,if_pos ⟨hle,by rw[hrow]; exact hrn,hop⟩]
     ·have h2:=hw'.left (A:=[_,_]) (fun b hb=>by
       simp only[qM,qI,or_false] at hb
       rcases hb with rfl|rfl
       ·exact hb4
       ·exact hb3)
      rw[← hl4,oPs,Int.natCast_add]
      exact h2
    ·refine forget (fun e=>e 0=pPs pb∧e 3=.pointer (some ⟨b3,0,none⟩)∧e 4=.pointer (some ⟨b4,0,none⟩)∧e 5=str row) ⟨rfl,rfl,rfl,rfl⟩ (tail (fun h=>by rw[h.1] at hle; cases hle))
   ·refine sp ?_
    rw[Vc]
    refine cdB (b:=false) (fun h=>absurd h (by decide)) (fun _=>?_)
    refine forget (fun e=>e 0=pPs pb∧e 3=.pointer (some ⟨b3,0,none⟩)∧e 4=.pointer (some ⟨b4,0,none⟩)∧e 5=str row) ⟨rfl,rfl,rfl,rfl⟩ (tail (fun h=>by rw[h.2.2] at hop; cases hop))
  ·refine sp ?_
   refine gT rfl (fun h=>absurd h hrn) (fun _=>?_)
   refine sp ?_
   rw[Vc]
   refine cdB (b:=false) (fun h=>absurd h (by decide)) (fun _=>?_)
   refine forget (fun e=>e 0=pPs pb∧e 3=.pointer (some ⟨b3,0,none⟩)∧e 4=.pointer (some ⟨b4,0,none⟩)∧e 5=str row) ⟨rfl,rfl,rfl,rfl⟩ (tail (fun h=>hrn h.2.1))
 case t =>
  rintro hC e ⟨h0,h3,h4,h5⟩
  have hC':¬ (letsP f=true∧rowP smallB s p=nullT∧opensB s (p+4)=false):=by rw[hrow]; exact hC
  obtain ⟨o4,ho4⟩:∃ o,o=(qb2 b4):=⟨_,rfl⟩
  have n4:wb.heap.size≤o4.1:=by rw[ho4]; exact hb4
  simp (disch:=omega) only[push_cast,qE,h3]
  refine lAg Shp.eq mem1 rfl rfl ?_
  simp (disch:=omega) only[push_cast,qE,h3]
  refine newI (fun b6 hb6 hn6=>?_)
  simp (disch:=omega) only[push_cast,qE,h3]
  refine sXa 0 rfl Siz.eq rfl rfl ?_
  simp (disch:=omega) only[push_cast,qE,h3]
  refine lOn Shp.eq mem0 rfl ?_
  simp (disch:=omega) only[push_cast,qE,h3]
  obtain ⟨o6,ho6⟩:∃ o,o=(qb1 b6 f a c):=⟨_,rfl⟩
  have n6:wb.heap.size≤o6.1:=by rw[ho6]; exact hb6
  have hM6:∀ b∈o6::o4::o3::M,wb.heap.size≤b.1:=fun b hb=>by
   simp only[qM] at hb
   rcases hb with rfl|rfl|rfl|hb
   ·exact n6
   ·exact n4
   ·exact n3
   ·exact hM b hb
  have bad:∀ {er:Int} {q:Nat} {K:Own} {w':World},readV s (d+1) f p=.no er q→(∀ b∈K,wb.heap.size≤b.1)→Sy wb (K++(o6::o4::o3::M)) w'→PVR wb pb s M (readV s (d+1) f p) VlS (.panicked [wrongE er q]) w':=fun {er q K w'} h hK hw' =>
   PVR.fall (K++[o6,o4,o3]) h (fun b hb=>by
    simp only[List.mem_append,qM,qI,or_false] at hb
    rcases hb with hb|rfl|rfl|rfl
    ·exact hK b hb
    ·exact n6
    ·exact n4
    ·exact n3) (by simpa [List.append_assoc] using hw')
  have fin:∀ {v:Vl} {u:Value} {q:Nat} {K:Own} {x:Obj} {w':World},readV s (d+1) f p=.ok v q→q≤s.length→VlS v u K→(∀ b∈K,wb.heap.size≤b.1)→Sy wb ((b4,x)::oPs pb s q::(K++(o6::o3::M))) w'→PVR wb pb s M (readV s (d+1) f p) VlS (.returned u) w':=fun {v u q K x w'} h hq hv hK hw'=>by
   refine PVR.leaf u K h hq hv hK ?_
   have h2:=hw'.left (A:=[_]) (fun b hb=>by rw[List.mem_singleton.1 hb]; exact hb4)
   exact h2.mid (oPs pb s q::K) [o6,o3] (C:=M) (fun b hb=>by
    simp only[qM,qI,or_false] at hb
    rcases hb with rfl|rfl
    ·exact n6
    ·exact n3)
  have hwk:∀ w,Sy wb ((qb1 b6 f a c)::(qb2 b4)::(qb0 b3 f a c)::oPs pb s p::M) w→Sy wb (oPs pb s p::(o6::o4::o3::M)) w:=fun w hw=>by
   rw[ho6,ho4,ho3]
   exact hw.perm (List.perm_middle (l₁:=[_,_,_]))
  have hWW:∀ (q:Nat) (K:Own) w,Sy wb (oPs pb s q::(K++(o6::o4::o3::M))) w→Sy wb (o4::oPs pb s q::(K++(o6::o3::M))) w:=fun q K w hw=>hw.perm (pC)
  refine forget (fun e=>e 0=pPs pb∧e 4=.pointer (some ⟨b4,0,none⟩)∧e 5=str row∧e 6=.pointer (some ⟨b6,0,none⟩)∧e 42=i64 f.k) ⟨h0,h4,h5,rfl,rfl⟩ ?_
  clear h0 h3 h4 h5 e
  rintro e ⟨h0,h4,h5,h6,h42⟩
  rw[Vb]
  by_cases hkA:f.k=19∨f.k=20
  ·obtain ⟨g,hg⟩:∃ g,f.sub[0]?=some g:=by
    have h1:=hok.1.1.2.2.2.1
    exact ⟨_,List.getElem?_eq_getElem (by rcases hkA with hk|hk<;>rw[hk] at h1<;>simp[leastK] at h1<;>omega)⟩
   have hx:readV s (d+1) f p=readV s d g p:=by rw[readV,if_neg hC',if_pos hkA,hg]
   have hpos:0 < f.sub.length:=(List.getElem?_eq_some_iff.1 hg).1
   obtain ⟨gb,goff,ga,gc,rfl,g1,g2,g3⟩:=hA.get hg
   rw[Nat.zero_mul,Nat.add_zero] at g2
   rcases hkA with hk|hk<;>rw[hk] at h42<;>simp (disch:=omega) only[push_cast,qE,h42]
   all_goals repeat ((try rw[Vc]); (try simp (disch:=omega) only[push_cast,qE,h42]); (refine cdD (fun h9=>?_) (fun h9=>?_)<;>first|(exfalso; first|omega|exact h9 trivial)|((try clear h9); try simp (disch:=omega) only[push_cast,qE,h42])))
   all_goals
    simp (disch:=omega) only[push_cast,qE,h0,h6]
    refine lOn Shp.eq mem0 rfl ?_
    simp (disch:=omega) only[push_cast,qE,h0,h6]
    refine ldAggF Shp.eq g2 rfl (out_of (fun b hb=>Nat.lt_of_lt_of_le (Nat.lt_of_lt_of_le g1 hlo) (by
     simp only[qM] at hb
     rcases hb with rfl|rfl|rfl|rfl|hb
     ·exact hb6
     ·exact hb4
     ·exact hb3
     ·exact hpb
     ·exact hM b hb))) ?_
    simp (disch:=omega) only[push_cast,qE,h0,h6,Fld.cells]
    refine callV en_32 (callX_weak hwk (callX_pw (M:=o6::o4::o3::M) (fun q K=>o4::oPs pb s q::(K++(o6::o3::M))) (fun w' hw'=>hP wb w' lo pb s p (o6::o4::o3::M) _ g ga gc hl hTb hlo (hok.2 g (List.mem_of_getElem? hg)) g3 hs hp hpb hM6 hw') hWW (fun v q2 u K hr2 hq2 hS hK=>?_) (fun er q2 K hr2 hK=>?_)))
    ·obtain ⟨its2,a2,c2,hv,rfl,rfl⟩:=hS
     simp (disch:=omega) only[push_cast,qE,h4,Vl.cells]
     refine stX 0 (by rw[ho4]; rfl) Siz.eq rfl rfl (by simp[qC]) (by simp) ?_
     simp (disch:=omega) only[push_cast,qE,h4]
     refine lAg Shp.eq mem0 rfl rfl ?_
     refine sp ?_
     exact fun w' hw'=>fin (hx.trans hr2) hq2 ⟨its2,a2,c2,hv,rfl,rfl⟩ hK hw'
    ·refine sp ?_
     exact fun w' hw'=>bad (hx.trans hr2) hK hw'
  have hk19:¬ f.k=19:=fun h=>hkA (.inl h)
  have hk20:¬ f.k=20:=fun h=>hkA (.inr h)
  by_cases hk12:f.k=12
  ·have hx:readV s (d+1) f p=(quoteV s p).and fun t r=>.ok (.mk false 0 t []) r:=by rw[readV,if_neg hC',if_neg hkA,if_pos hk12]
   rw[hk12] at h42
   simp (disch:=omega) only[push_cast,qE,h42]
   repeat ((try rw[Vc]); (try simp (disch:=omega) only[push_cast,qE,h42]); (refine cdD (fun h9=>?_) (fun h9=>?_)<;>first|(exfalso; first|omega|exact h9 trivial)|((try clear h9); try simp (disch:=omega) only[push_cast,qE,h42])))
   all_goals
    simp (disch:=omega) only[push_cast,qE,h0]
    refine callV en_70 (callX_weak hwk (callX_pw (M:=o6::o4::o3::M) (fun q K=>o4::oPs pb s q::(K++(o6::o3::M))) (fun w' hw'=>text_walk wb w' hTb pb s p (o6::o4::o3::M) hs hp hpb hM6 hw') hWW (fun t q2 u K hr2 hq2 hS hK=>?_) (fun er q2 K hr2 hK=>?_)))
    ·obtain ⟨rfl,rfl⟩:=hS
     have htl:=quote_len hr2
     simp (disch:=omega) only[push_cast,qE,h4]
     refine stX 0 (by rw[ho4]; rfl) Siz.eq rfl rfl (by simp[qC]) (by simp) ?_
     simp (disch:=omega) only[push_cast,qE,h4]
     refine lAg Shp.eq mem0 rfl rfl ?_
     refine sp ?_
     exact fun w' hw'=>fin (hx.trans (by rw[hr2]; rfl)) hq2 ⟨_,_,_,ZeV.leafV (nu:=false) (num:=0) (tx:=t) (by omega) (by omega),rfl,rfl⟩ hK hw'
    ·refine sp ?_
     exact fun w' hw'=>bad (hx.trans (by rw[hr2]; rfl)) hK hw'
  by_cases hk13:f.k=13∨f.k=14
  ·have hx:readV s (d+1) f p=(bytesP s f.k f.wd p).and fun t r=>.ok (.mk false 0 t []) r:=by
    rw[readV,if_neg hC',if_neg hkA,if_neg hk12]
    unfold bytesP
    rw[PV.and_and]
    rcases hk13 with hk|hk
    ·rw[if_pos hk]
     congr 1
     funext t r
     rw[if_neg (by omega)]
     rfl
    ·rw[if_neg (by omega),if_pos hk]
     congr 1
     funext t r
     by_cases h:(t.length:Int)=f.wd
     ·rw[if_pos h,if_neg (fun x=>x.2 h)]; rfl
     ·rw[if_neg h,if_pos ⟨hk,h⟩]; rfl
   rcases hk13 with hk|hk<;>rw[hk] at h42<;>simp (disch:=omega) only[push_cast,qE,h42]
   all_goals repeat ((try rw[Vc]); (try simp (disch:=omega) only[push_cast,qE,h42]); (refine cdD (fun h9=>?_) (fun h9=>?_)<;>first|(exfalso; first|omega|exact h9 trivial)|((try clear h9); try simp (disch:=omega) only[push_cast,qE,h42])))
   all_goals
    simp (disch:=omega) only[push_cast,qE,h0,h6]
    refine lAg Shp.eq mem0 rfl rfl ?_
    simp (disch:=omega) only[push_cast,qE,h0,h6]
    refine callV en_71 (callX_weak hwk (callX_pw (M:=o6::o4::o3::M) (fun q K=>o4::oPs pb s q::(K++(o6::o3::M))) (fun w' hw'=>bytes_walk wb w' lo pb s p (o6::o4::o3::M) f a c hs hp hpb hM6 hw') hWW (fun t q2 u K hr2 hq2 hS hK=>?_) (fun er q2 K hr2 hK=>?_)))
    ·obtain ⟨rfl,rfl⟩:=hS
     have htl:=raw_len hr2
     simp (disch:=omega) only[push_cast,qE,h4]
     refine stX 0 (by rw[ho4]; rfl) Siz.eq rfl rfl (by simp[qC]) (by simp) ?_
     simp (disch:=omega) only[push_cast,qE,h4]
     refine lAg Shp.eq mem0 rfl rfl ?_
     refine sp ?_
     exact fun w' hw'=>fin (hx.trans (by rw[hr2]; rfl)) hq2 ⟨_,_,_,ZeV.leafV (nu:=false) (num:=0) (tx:=t) (by omega) (by omega),rfl,rfl⟩ hK hw'
    ·refine sp ?_
     exact fun w' hw'=>bad (hx.trans (by rw[hr2]; rfl)) hK hw'
  by_cases hk18:f.k=18
  ·have hx:readV s (d+1) f p=choiceV s (readV s d) f.sub p:=by rw[readV,if_neg hC',if_neg hkA,if_neg hk12,if_neg (by omega),if_neg (by omega),if_neg (by omega),if_neg (by omega),if_pos hk18]
   rw[hk18] at h42
   simp (disch:=omega) only[push_cast,qE,h42]
   repeat ((try rw[Vc]); (try simp (disch:=omega) only[push_cast,qE,h42]); (refine cdD (fun h9=>?_) (fun h9=>?_)<;>first|(exfalso; first|omega|exact h9 trivial)|((try clear h9); try simp (disch:=omega) only[push_cast,qE,h42])))
   all_goals
    simp (disch:=omega) only[push_cast,qE,h0,h6]
    refine lAg Shp.eq mem0 rfl rfl ?_
    simp (disch:=omega) only[push_cast,qE,h0,h6]
    refine callV en_74 (callX_weak hwk (callX_pw (M:=o6::o4::o3::M) (fun q K=>o4::oPs pb s q::(K++(o6::o3::M))) (fun w' hw'=>choice_step d hP wb w' lo pb s p (o6::o4::o3::M) ind f a c hl hTb hlo hok hk18 hA hs hp hpb hM6 hw') hWW (fun v q2 u K hr2 hq2 hS hK=>?_) (fun er q2 K hr2 hK=>?_)))
    ·obtain ⟨its2,a2,c2,hv,rfl,rfl⟩:=hS
     simp (disch:=omega) only[push_cast,qE,h4,Vl.cells]
     refine stX 0 (by rw[ho4]; rfl) Siz.eq rfl rfl (by simp[qC]) (by simp) ?_
     simp (disch:=omega) only[push_cast,qE,h4]
     refine lAg Shp.eq mem0 rfl rfl ?_
     refine sp ?_
     exact fun w' hw'=>fin (hx.trans hr2) hq2 ⟨its2,a2,c2,hv,rfl,rfl⟩ hK hw'
    ·refine sp ?_
     exact fun w' hw'=>bad (hx.trans hr2) hK hw'
  by_cases hk17:f.k=17
  ·have hx:readV s (d+1) f p=((mustV s [123] p).and fun _ r=>kidsV s (readV s d) true f.sub r).and fun l r=>.ok (.mk false 0 [] l) r:=by
    rw[readV,if_neg hC',if_neg hkA,if_neg hk12,if_neg (by omega),if_neg (by omega),if_neg (by omega),if_pos hk17]
    rw[PV.and_and]
    try rfl
   rw[hk17] at h42
   simp (disch:=omega) only[push_cast,qE,h42]
   repeat ((try rw[Vc]); (try simp (disch:=omega) only[push_cast,qE,h42]); (refine cdD (fun h9=>?_) (fun h9=>?_)<;>first|(exfalso; first|omega|exact h9 trivial)|((try clear h9); try simp (disch:=omega) only[push_cast,qE,h42])))
   all_goals
    simp (disch:=omega) only[push_cast,qE,h0,h6]
    refine lAg Shp.eq mem0 rfl rfl ?_
    simp (disch:=omega) only[push_cast,qE,h0,h6]
    refine callV en_73 (callX_weak hwk (callX_pw (M:=o6::o4::o3::M) (fun q K=>o4::oPs pb s q::(K++(o6::o3::M))) (fun w' hw'=>children_step d hP wb w' lo pb s p (o6::o4::o3::M) ind f a c hl hTb hlo hok hk17 hA hs hp hpb hM6 hw') hWW (fun l q2 u K hr2 hq2 hS hK=>?_) (fun er q2 K hr2 hK=>?_)))
    ·obtain ⟨x,its,z1,z2,z3,rfl,rfl⟩:=hS
     simp (disch:=omega) only[push_cast,qE,h4,Rw.way]
     refine stX 0 (by rw[ho4]; rfl) Siz.eq rfl rfl (by simp[qC]) (by simp) ?_
     simp (disch:=omega) only[push_cast,qE,h4]
     refine lAg Shp.eq mem0 rfl rfl ?_
     refine sp ?_
     refine fun w' hw'=>fin (hx.trans (congrArg (fun z:PV (List Vl)=>z.and fun l r=>.ok (Vl.mk false 0 [] l) r) hr2)) hq2 ⟨x::its,x.at_,x.c,?_,?_,by rw[ownR_cons]⟩ hK hw'
     ·rw[ZeV]
      exact ⟨by simp,by omega,x,its,rfl,z1,z2,rfl,rfl,z3⟩
     ·rw[z2]; rfl
    ·refine sp ?_
     exact fun w' hw'=>bad (hx.trans (congrArg (fun z:PV (List Vl)=>z.and fun l r=>.ok (Vl.mk false 0 [] l) r) hr2)) hK hw'
  by_cases hk15:f.k=15∨f.k=16
  ·have hx:readV s (d+1) f p=((mustV s [91] p).and fun _ r=>itemsV s f.k f.wd (fun r=>match f.sub[0]? with|some g=>readV s d g r|none=>.no 8 r) 4200 0 r).and fun l r=>.ok (.mk false 0 [] l) r:=by
    rw[readV,if_neg hC',if_neg hkA,if_neg hk12,if_neg (by omega),if_neg (by omega),if_pos hk15]
    rw[PV.and_and]
    try rfl
   have hk15':=hk15
   rcases hk15 with hk|hk<;>rw[hk] at h42<;>simp (disch:=omega) only[push_cast,qE,h42]
   all_goals repeat ((try rw[Vc]); (try simp (disch:=omega) only[push_cast,qE,h42]); (refine cdD (fun h9=>?_) (fun h9=>?_)<;>first|(exfalso; first|omega|exact h9 trivial)|((try clear h9); try simp (disch:=omega) only[push_cast,qE,h42])))
   all_goals
    simp (disch:=omega) only[push_cast,qE,h0,h6]
    refine lAg Shp.eq mem0 rfl rfl ?_
    simp (disch:=omega) only[push_cast,qE,h0,h6]
    refine callV en_72 (callX_weak hwk (callX_pw (M:=o6::o4::o3::M) (fun q K=>o4::oPs pb s q::(K++(o6::o3::M))) (fun w' hw'=>items_step d hP wb w' lo pb s p (o6::o4::o3::M) ind f a c hl hTb hlo hok hk15' hA hs hp hpb hM6 hw') hWW (fun l q2 u K hr2 hq2 hS hK=>?_) (fun er q2 K hr2 hK=>?_)))
    ·obtain ⟨x,its,z1,z2,z3,rfl,rfl⟩:=hS
     simp (disch:=omega) only[push_cast,qE,h4,Rw.way]
     refine stX 0 (by rw[ho4]; rfl) Siz.eq rfl rfl (by simp[qC]) (by simp) ?_
     simp (disch:=omega) only[push_cast,qE,h4]
     refine lAg Shp.eq mem0 rfl rfl ?_
     refine sp ?_
     refine fun w' hw'=>fin (hx.trans (congrArg (fun z:PV (List Vl)=>z.and fun l r=>.ok (Vl.mk false 0 [] l) r) hr2)) hq2 ⟨x::its,x.at_,x.c,?_,?_,by rw[ownR_cons]⟩ hK hw'
     ·rw[ZeV]
      exact ⟨by simp,by omega,x,its,rfl,z1,z2,rfl,rfl,z3⟩
     ·rw[z2]; rfl
    ·refine sp ?_
     exact fun w' hw'=>bad (hx.trans (congrArg (fun z:PV (List Vl)=>z.and fun l r=>.ok (Vl.mk false 0 [] l) r) hr2)) hK hw'
  have hx:readV s (d+1) f p=match readN f.k row with|some n=>.ok (.mk false n [] []) (p+row.length)|none=>.no 8 p:=by
   rw[readV,if_neg hC',if_neg hkA,if_neg hk12,if_neg (by omega),if_neg (by omega),if_neg hk15,if_neg hk17,if_neg hk18,hrow,hrun]
   rfl
  simp (disch:=omega) only[push_cast,qE,h42]
  repeat ((try rw[Vc]); (try simp (disch:=omega) only[push_cast,qE,h42]); (refine cdD (fun h9=>?_) (fun h9=>?_)<;>first|(exfalso; first|omega|exact h9 trivial)|((try clear h9); try simp (disch:=omega) only[push_cast,qE,h42])))
  simp (disch:=omega) only[push_cast,qE,h5,h6]
  refine lOn Shp.eq mem0 rfl ?_
  simp (disch:=omega) only[push_cast,qE,h5,h6]
  have hnw:∀ b∈(qb1 b6 f a c)::(qb2 b4)::(qb0 b3 f a c)::oPs pb s p::M,wb.heap.size≤b.1:=fun b hb=>by
   simp only[qM] at hb
   rcases hb with rfl|rfl|rfl|rfl|hb
   ·exact hb6
   ·exact hb4
   ·exact hb3
   ·exact hpb
   ·exact hM b hb
  refine callV en_75 (callX_ex (fun w' hw'=>number_walk w' (hl.mono hw' hnw) f.k row (by omega)) (fun v hv=>?_))
  obtain ⟨n,b,rfl,hy,hn⟩:=hv
  simp (disch:=omega) only[push_cast,qE,h0,h4,h5]
  rw[Vc]
  simp (disch:=omega) only[push_cast,qE,h0,h4,h5]
  refine cdB (fun hb=>?_) (fun hb=>?_)
  ·have hb':b=false:=by simpa using hb
   simp (disch:=omega) only[push_cast,qE,h0,h4,h5]
   refine lOn Shp.eq mem3 rfl ?_
   simp (disch:=omega) only[push_cast,qE,h0,h4,h5]
   refine callV en_33 (callX_fail p ?_)
   refine sp ?_
   exact fun w' hw'=>bad (K:=[oPs pb s p]) (by rw[hx,hn hb']) (fun b hb=>by rw[List.mem_singleton.1 hb]; exact hpb) (hwk w' hw')
  ·have hb':b=true:=by simpa using hb
   have hrd:=hy hb'
   have hnr:=(readN_some hrd).1.1
   simp (disch:=omega) only[push_cast,qE,h0,h4,h5]
   refine lOn Shp.eq mem3 rfl ?_
   simp (disch:=omega) only[push_cast,qE,h0,h4,h5]
   refine sXa 3 rfl Siz.eq rfl rfl ?_
   simp (disch:=omega) only[push_cast,qE,h0,h4,h5]
   refine sXa 1 rfl Siz.eq rfl rfl ?_
   simp (disch:=omega) only[push_cast,qE,h0,h4,h5]
   refine lAg Shp.eq mem1 rfl rfl ?_
   refine sp ?_
   refine fun w' hw'=>fin (K:=[]) (q:=p+row.length) (x:=Obj.cells #[.bool false,i64 n,str [],.slice none 0 0] 29 (0,0)) (by rw[hx,hrd]) hrl ⟨_,_,_,ZeV.leafV (nu:=false) (num:=n) (tx:=[]) (by simp) hnr,rfl,rfl⟩ (by simp) ?_
   rw[ho6,ho3,oPs,Int.natCast_add]
   exact hw'.perm ((List.Perm.swap _ _ _).trans (List.Perm.cons _ ((List.perm_middle (l₁:=[_,_])))))
theorem value_all:∀ d,PaOK d
 | 0=>fun wb w lo pb s p M ind f a c hl hTb hlo hok=>hok.elim
 | d+1=>value_step d (value_all d)
end Go.Proofs.YtilejcofleeeiaaGreatDoor
