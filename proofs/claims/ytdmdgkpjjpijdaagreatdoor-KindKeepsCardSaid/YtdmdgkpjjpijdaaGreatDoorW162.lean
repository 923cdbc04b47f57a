/- YtdmdgkpjjpijdaaGreatDoor: walks, part 162: a reader: blanks, signs, words. -/
import Derived.Test.YtdmdgkpjjpijdaaGreatDoorW160
namespace Go.Proofs.YtdmdgkpjjpijdaaGreatDoor
open Go Go.K
open Nat renaming reduceEqDiff → qE
set_option maxRecDepth 100000
set_option linter.unusedVariables false
set_option linter.unusedSimpArgs false
set_option maxHeartbeats 4000000
structure BlI (w0:World) (rb:Nat) (s:List UInt8) (M:Own) (q:Nat) (p:Nat) (wb:World) (e:Env) (ds:List Deferred) (L:Own):Prop where
 hw:wb=w0
 hds:ds=[]
 hp:p≤s.length
 hq:blP s p=q
 h0:e 0=.pointer (some ⟨rb,0,none⟩)
 o:L=oRd rb s p::M
theorem getD_at {s:List UInt8} {i:Nat} (h:i < s.length):s[i]?=some (s.getD i 0):=by
 rw[List.getD_eq_getElem?_getD,List.getElem?_eq_getElem h]
 rfl
theorem blanks_walk (wb w:World) (rb:Nat) (s:List UInt8) (p:Nat) (M:Own) (hs:s.length≤65536) (hp:p≤s.length) (hw:Sy wb (oRd rb s p::M) w) :
 Calls Tryz.prog 34 #[.pointer (some ⟨rb,0,none⟩)] w (fun e w'=>e=.returned (.tuple #[])∧Sy wb (oRd rb s (blP s p)::M) w'):=by
 refine enterB (args:=[.pointer (some ⟨rb,0,none⟩)]) Tryz.func34 rfl Tryz.ntmps34 (congrArg Array.toList Tryz.results34) (by kernel_rfl) (by simp) hw ?_
 refine sp ?_
 rw[Vb]
 refine sp ?_
 refine loopW (G:=Nat) (BlI wb rb s M (blP s p)) (fun p=>s.length - p) p _ (fun w hw=>hw) (by kernel_rfl) ⟨rfl,rfl,hp,rfl,rfl,rfl⟩ ?_
 rintro i wb e ds L ⟨rfl,rfl,hi,hq,h0,rfl⟩
 simp (disch:=omega) only[push_cast,qE,h0]
 refine drawQT (by kernel_rfl) (by kernel_rfl) mixed (by kernel_rfl) ?_
 simp (disch:=omega) only[push_cast,qE,h0]
 refine lOn Shp.eq mem0 rfl ?_
 simp (disch:=omega) only[push_cast,qE,h0]
 refine lOn Shp.eq mem0 rfl ?_
 simp (disch:=omega) only[push_cast,qE,h0]
 refine gT rfl (fun hlt=>?_) (fun hge=>?_)
 ·simp (disch:=omega) only[push_cast,qE,h0]
  refine lOn Shp.eq mem0 rfl ?_
  simp (disch:=omega) only[push_cast,qE,h0]
  refine lOn Shp.eq mem0 rfl ?_
  simp (disch:=omega) only[push_cast,qE,h0]
  refine qcallV en_71 (qcallX_is _ (fun w' hw'=>indexByte_walk w' [32,9,10] (s.getD i 0)) ?_)
  simp (disch:=omega) only[push_cast,qE,h0]
  rw[Vc]
  simp (disch:=omega) only[push_cast,qE,h0]
  have hat:=getD_at (s:=s) (i:=i) (by omega)
  refine cdD (fun hb=>?_) (fun hb=>?_)
  ·have hb2:=(blank_index _).1 hb
   simp (disch:=omega) only[push_cast,qE,h0]
   rw[Vb]
   simp (disch:=omega) only[push_cast,qE,h0]
   refine lOn Shp.eq mem0 rfl ?_
   simp (disch:=omega) only[push_cast,qE,h0]
   refine sXa 0 rfl Siz.eq rfl rfl ?_
   simp (disch:=omega) only[push_cast,qE,h0]
   exact ⟨i+1,_,fun w hw=>hw,⟨rfl,rfl,by omega,by rw[← hq]; exact (runP_step hat hb2).symm,h0,by simp[splice]⟩,by omega⟩
  ·have hb2:blankB (s.getD i 0)=false:=by
    rw[← Bool.not_eq_true]
    exact fun h=>hb ((blank_index _).2 h)
   have hi2:blP s i=i:=runP_stop hat hb2
   rw[hi2] at hq
   subst hq
   simp (disch:=omega) only[push_cast,qE,h0]
   exact fun w' hw'=>hw'
 ·have hi2:blP s i=i:=runP_end (by omega)
  rw[hi2] at hq
  subst hq
  simp (disch:=omega) only[push_cast,qE,h0]
  rw[Vc]
  simp (disch:=omega) only[push_cast,qE,h0]
  exact fun w' hw'=>hw'
theorem get_iff {s:List UInt8} {q:Nat} {c:UInt8} (h:q < s.length):((s.getD q 0).toNat:Int)=c.toNat↔s[q]?=some c:=by
 rw[getD_at h]
 constructor
 ·intro e
  rw[UInt8.toNat_inj.1 (by omega:(s.getD q 0).toNat=c.toNat)]
 ·intro e
  rw[Option.some.inj e]
theorem get_none {s:List UInt8} {q:Nat} {c:UInt8} (h:¬ q < s.length):s[q]?≠some c:=by
 rw[List.getElem?_eq_none (by omega)]
 simp
theorem is_walk (wb w:World) (rb:Nat) (s:List UInt8) (p:Nat) (M:Own) (c:UInt8) (ci:Int) (hc:ci=c.toNat) (hs:s.length≤65536) (hp:p≤s.length) (hw:Sy wb (oRd rb s p::M) w) :
 Calls Tryz.prog 35 #[.pointer (some ⟨rb,0,none⟩),.int .u8 ci] w (fun e w'=>e=.returned (.bool (decide (s[blP s p]?=some c)))∧Sy wb (oRd rb s (blP s p)::M) w'):=by
 subst hc
 refine enterB (args:=[.pointer (some ⟨rb,0,none⟩),.int .u8 (c.toNat:Int)]) Tryz.func35 rfl Tryz.ntmps35 (congrArg Array.toList Tryz.results35) (by kernel_rfl) (by simp) hw ?_
 refine sp ?_
 refine callV en_34 (callX_base (fun w' hw'=>blanks_walk wb w' rb s p M hs hp hw') ?_)
 rintro e' w' ⟨rfl,q1⟩
 refine ⟨_,_,rfl,q1,?_⟩
 clear q1
 refine sp ?_
 have hle:blP s p≤s.length:=runP_le hp
 refine drawQT (by kernel_rfl) (by kernel_rfl) mixed (by kernel_rfl) ?_
 refine sp ?_
 refine lOn Shp.eq mem0 rfl ?_
 refine sp ?_
 refine lOn Shp.eq mem0 rfl ?_
 refine sp ?_
 refine gT rfl (fun hlt=>?_) (fun hge=>?_)
 ·refine sp ?_
  refine lOn Shp.eq mem0 rfl ?_
  refine sp ?_
  refine lOn Shp.eq mem0 rfl ?_
  refine sp ?_
  have hg:=get_iff (s:=s) (q:=blP s p) (c:=c) (by omega)
  refine fun w' hw'=>⟨?_,hw'⟩
  simp only[hg]
 ·refine sp ?_
  refine fun w' hw'=>⟨?_,hw'⟩
  have hn:=get_none (s:=s) (q:=blP s p) (c:=c) (by omega)
  simp[hn]
theorem take_walk (wb w:World) (rb:Nat) (s:List UInt8) (p:Nat) (M:Own) (c:UInt8) (ci:Int) (hc:ci=c.toNat) (hs:s.length≤65536) (hp:p≤s.length) (hw:Sy wb (oRd rb s p::M) w) :
 Calls Tryz.prog 37 #[.pointer (some ⟨rb,0,none⟩),.int .u8 ci] w (fun e w'=>(e=.returned (.bool true)∧∃ L',(s[blP s p]?=some c∧L'=oRd rb s (blP s p+1)::M)∧Sy wb L' w')∨(e=.returned (.bool false)∧∃ L',(s[blP s p]?≠some c∧L'=oRd rb s (blP s p)::M)∧Sy wb L' w')):=by
 refine enterB (args:=[.pointer (some ⟨rb,0,none⟩),.int .u8 ci]) Tryz.func37 rfl Tryz.ntmps37 (congrArg Array.toList Tryz.results37) (by kernel_rfl) (by simp) hw ?_
 refine sp ?_
 refine callV en_35 (callX_base (fun w' hw'=>is_walk wb w' rb s p M c ci hc hs hp hw') ?_)
 rintro e' w' ⟨rfl,q1⟩
 refine ⟨_,_,rfl,q1,?_⟩
 clear q1
 refine sp ?_
 rw[Vc]
 refine sp ?_
 refine cdB (fun hb=>?_) (fun hb=>?_)
 ·have h:s[blP s p]?≠some c:=by simpa using hb
  refine sp ?_
  exact fun w' hw'=>.inr ⟨_,⟨h,rfl⟩,hw'⟩
 ·have h:s[blP s p]?=some c:=by simpa using hb
  have hlt:=(List.getElem?_eq_some_iff.1 h).1
  refine sp ?_
  refine lOn Shp.eq mem0 rfl ?_
  refine sp ?_
  refine sXa 0 rfl Siz.eq rfl rfl ?_
  refine sp ?_
  exact fun w' hw'=>.inl ⟨_,⟨h,rfl⟩,by rw[oRd,Int.natCast_add]; simpa [splice] using hw'⟩
theorem callX_fail {wb:World} {L:Own} {Kp:KP} {K1:Value→World→Own→Prop} {a:Value} (q:Nat) (hp:Kp [faultE q] wb L):CallX Tryz.prog 73 #[a,i64 q] wb L (tag K1) (tag Kp) :=
 callX_pan (S:=fun _ _=>False) (SP:=fun ch L'=>ch=[faultE q]∧L'=L) (fun w' hw'=>(fail_walk w' a q).mono fun e w'' ⟨he,hs⟩=>.inr ⟨_,_,he,hw'.frame hs,rfl,rfl⟩) (fun _ _ h=>h.elim) (fun ch L' ⟨h1,h2⟩=>by rw[h1,h2]; exact hp)
theorem must_walk (wb w:World) (rb:Nat) (s:List UInt8) (p:Nat) (M:Own) (c:UInt8) (ci:Int) (hc:ci=c.toNat) (hs:s.length≤65536) (hp:p≤s.length) (hrb:wb.heap.size≤rb) (hw:Sy wb (oRd rb s p::M) w) :
 Calls Tryz.prog 101 #[.pointer (some ⟨rb,0,none⟩),.int .u8 ci] w (PRet wb rb s M (pMust s c (blP s p)) fun _ _ v K=>v=.tuple #[]∧K=[]):=by
 refine enterB (args:=[.pointer (some ⟨rb,0,none⟩),.int .u8 ci]) Tryz.func101 rfl Tryz.ntmps101 (congrArg Array.toList Tryz.results101) (by kernel_rfl) (by simp) hw ?_
 refine sp ?_
 refine callV en_37 (callX_two (fun L'=>s[blP s p]?=some c∧L'=oRd rb s (blP s p+1)::M) (fun L'=>s[blP s p]?≠some c∧L'=oRd rb s (blP s p)::M) (fun w' hw'=>take_walk wb w' rb s p M c ci hc hs hp hw') (fun L' hL'=>?_) (fun L' hL'=>?_))
 ·have h:=hL'.1
  have e:=hL'.2
  subst e
  have hlt:=(List.getElem?_eq_some_iff.1 h).1
  simp (disch:=omega) only[push_cast,qE,Bool.not_true]
  rw[Vc]
  simp (disch:=omega) only[push_cast,qE,Bool.not_true]
  exact fun w' hw'=>PRet.leaf (.tuple #[]) (blP s p+1) [] (x:=()) (q:=blP s (blP s p+1)) (by unfold pMust pSign; rw[if_pos h]) rfl (by omega) ⟨rfl,rfl⟩ (by simp) hw'
 ·have h:=hL'.1
  have e:=hL'.2
  subst e
  simp (disch:=omega) only[push_cast,qE,Bool.not_false]
  rw[Vc]
  simp (disch:=omega) only[push_cast,qE,Bool.not_false]
  refine lOn Shp.eq mem0 rfl ?_
  refine sp ?_
  refine callV en_73 (callX_fail (blP s p) ?_)
  refine sp ?_
  exact fun w' hw'=>PRet.fall [oRd rb s (blP s p)] (by unfold pMust pSign; rw[if_neg h]) (fun b hb=>by rw[List.mem_singleton.1 hb]; exact hrb) hw'
theorem end_walk (wb w:World) (rb:Nat) (s:List UInt8) (p:Nat) (M:Own) (hs:s.length≤65536) (hp:p≤s.length) (hrb:wb.heap.size≤rb) (hw:Sy wb (oRd rb s p::M) w) :
 Calls Tryz.prog 39 #[.pointer (some ⟨rb,0,none⟩)] w (PRet wb rb s M (pEnd s () (blP s p)) fun _ _ v K=>v=.tuple #[]∧K=[]):=by
 refine enterB (args:=[.pointer (some ⟨rb,0,none⟩)]) Tryz.func39 rfl Tryz.ntmps39 (congrArg Array.toList Tryz.results39) (by kernel_rfl) (by simp) hw ?_
 refine sp ?_
 refine callV en_34 (callX_base (fun w' hw'=>blanks_walk wb w' rb s p M hs hp hw') ?_)
 rintro e' w' ⟨rfl,q1⟩
 refine ⟨_,_,rfl,q1,?_⟩
 clear q1
 refine sp ?_
 have hle:blP s p≤s.length:=runP_le hp
 refine drawQT (by kernel_rfl) (by kernel_rfl) mixed (by kernel_rfl) ?_
 refine sp ?_
 refine lOn Shp.eq mem0 rfl ?_
 refine sp ?_
 refine lOn Shp.eq mem0 rfl ?_
 refine sp ?_
 rw[Vc]
 refine sp ?_
 refine cdD (fun hlt=>?_) (fun hge=>?_)
 ·refine sp ?_
  refine lOn Shp.eq mem0 rfl ?_
  refine sp ?_
  refine callV en_73 (callX_fail (blP s p) ?_)
  refine sp ?_
  exact fun w' hw'=>PRet.fall [oRd rb s (blP s p)] (by unfold pEnd; rw[if_pos (by omega)]) (fun b hb=>by rw[List.mem_singleton.1 hb]; exact hrb) hw'
 ·refine sp ?_
  exact fun w' hw'=>PRet.leaf (.tuple #[]) (blP s p) [] (x:=()) (q:=blP s p) (by unfold pEnd; rw[if_neg (by omega)]) (runP_idem _ _ _) hle ⟨rfl,rfl⟩ (by simp) hw'
structure WdI (w0:World) (rb:Nat) (s:List UInt8) (M:Own) (q0 q:Nat) (p:Nat) (wb:World) (e:Env) (ds:List Deferred) (L:Own):Prop where
 hw:wb=w0
 hds:ds=[]
 hp:p≤s.length
 hq:weP s p=q
 h0:e 0=.pointer (some ⟨rb,0,none⟩)
 h4:e 4=i64 q0
 o:L=oRd rb s p::M
theorem word_walk (wb w:World) (rb:Nat) (s:List UInt8) (p:Nat) (M:Own) (hs:s.length≤65536) (hp:p≤s.length) (hrb:wb.heap.size≤rb) (hw:Sy wb (oRd rb s p::M) w) :
 Calls Tryz.prog 77 #[.pointer (some ⟨rb,0,none⟩)] w (PRet wb rb s M (pWord s (blP s p)) fun x _ v K=>v=.tuple #[str x,i64 (blP s p)]∧K=[]):=by
 refine enterB (args:=[.pointer (some ⟨rb,0,none⟩)]) Tryz.func77 rfl Tryz.ntmps77 (congrArg Array.toList Tryz.results77) (by kernel_rfl) (by simp) hw ?_
 refine sp ?_
 refine callV en_34 (callX_base (fun w' hw'=>blanks_walk wb w' rb s p M hs hp hw') ?_)
 rintro e' w' ⟨rfl,q1⟩
 refine ⟨_,_,rfl,q1,?_⟩
 clear q1
 refine sp ?_
 have hle:blP s p≤s.length:=runP_le hp
 refine lOn Shp.eq mem0 rfl ?_
 refine sp ?_
 rw[Vb]
 refine sp ?_
 refine loopW (G:=Nat) (WdI wb rb s M (blP s p) (weP s (blP s p))) (fun p=>s.length - p) (blP s p) _ (fun w hw=>hw) (by kernel_rfl) ⟨rfl,rfl,hle,rfl,rfl,rfl,rfl⟩ ?_
 rintro i wb e ds L ⟨rfl,rfl,hi,hq,h0,h4,rfl⟩
 simp (disch:=omega) only[push_cast,qE,h0,h4]
 refine drawQT (by kernel_rfl) (by kernel_rfl) mixed (by kernel_rfl) ?_
 simp (disch:=omega) only[push_cast,qE,h0,h4]
 refine lOn Shp.eq mem0 rfl ?_
 simp (disch:=omega) only[push_cast,qE,h0,h4]
 refine lOn Shp.eq mem0 rfl ?_
 simp (disch:=omega) only[push_cast,qE,h0,h4]
 refine gT rfl (fun hlt=>?_) (fun hge=>?_)
 ·simp (disch:=omega) only[push_cast,qE,h0,h4]
  refine lOn Shp.eq mem0 rfl ?_
  simp (disch:=omega) only[push_cast,qE,h0,h4]
  refine lOn Shp.eq mem0 rfl ?_
  simp (disch:=omega) only[push_cast,qE,h0,h4]
  refine qcallV en_107 (qcallX_is _ (fun w' hw'=>letter_walk w' ((s.getD i 0).toNat)) ?_)
  simp (disch:=omega) only[push_cast,qE,h0,h4]
  rw[Vc]
  simp (disch:=omega) only[push_cast,qE,h0,h4]
  have hat:=getD_at (s:=s) (i:=i) (by omega)
  refine cdD (fun hb=>?_) (fun hb=>?_)
  ·simp (disch:=omega) only[push_cast,qE,h0,h4]
   rw[Vb]
   simp (disch:=omega) only[push_cast,qE,h0,h4]
   refine lOn Shp.eq mem0 rfl ?_
   simp (disch:=omega) only[push_cast,qE,h0,h4]
   refine sXa 0 rfl Siz.eq rfl rfl ?_
   simp (disch:=omega) only[push_cast,qE,h0,h4]
   exact ⟨i+1,_,fun w hw=>hw,⟨rfl,rfl,by omega,by rw[← hq]; exact (runP_step hat (decide_eq_true hb)).symm,h0,h4,by simp[splice]⟩,by omega⟩
  ·have hi2:weP s i=i:=runP_stop hat (decide_eq_false hb)
   simp (disch:=omega) only[push_cast,qE,h0,h4]
   refine lOn Shp.eq mem0 rfl ?_
   simp (disch:=omega) only[push_cast,qE,h0,h4]
   rw[Vc]
   simp (disch:=omega) only[push_cast,qE,h0,h4]
   have hwe:weP s (blP s p)=i:=hq.symm.trans hi2
   refine cdD (fun he=>?_) (fun he=>?_)
   ·simp (disch:=omega) only[push_cast,qE,h0,h4]
    refine callV en_73 (callX_fail (blP s p) ?_)
    simp (disch:=omega) only[push_cast,qE,h0,h4]
    exact fun w' hw'=>PRet.fall [oRd rb s i] (by unfold pWord; rw[if_pos (by omega)]) (fun b hb=>by rw[List.mem_singleton.1 hb]; exact hrb) hw'
   ·simp (disch:=omega) only[push_cast,qE,h0,h4]
    refine drawQT (by kernel_rfl) (by kernel_rfl) mixed (by kernel_rfl) ?_
    simp (disch:=omega) only[push_cast,qE,h0,h4]
    refine lOn Shp.eq mem0 rfl ?_
    simp (disch:=omega) only[push_cast,qE,h0,h4]
    refine lOn Shp.eq mem0 rfl ?_
    have hge2:=runP_ge letB s (blP s p)
    have hqi:blP s p≤i:=by rw[← hwe]; exact hge2
    simp (disch:=omega) only[push_cast,qE,h0,h4,Int.toNat_natCast]
    exact fun w' hw'=>PRet.leaf _ i [] (x:=(s.take i).drop (blP s p)) (q:=blP s i) (by unfold pWord; rw[hwe,if_neg (by omega)]) rfl hi ⟨rfl,rfl⟩ (by simp) hw'
 ·have hi2:weP s i=i:=runP_end (by omega)
  simp (disch:=omega) only[push_cast,qE,h0,h4]
  rw[Vc]
  simp (disch:=omega) only[push_cast,qE,h0,h4]
  refine lOn Shp.eq mem0 rfl ?_
  simp (disch:=omega) only[push_cast,qE,h0,h4]
  rw[Vc]
  simp (disch:=omega) only[push_cast,qE,h0,h4]
  have hwe:weP s (blP s p)=i:=hq.symm.trans hi2
  refine cdD (fun he=>?_) (fun he=>?_)
  ·simp (disch:=omega) only[push_cast,qE,h0,h4]
   refine callV en_73 (callX_fail (blP s p) ?_)
   simp (disch:=omega) only[push_cast,qE,h0,h4]
   exact fun w' hw'=>PRet.fall [oRd rb s i] (by unfold pWord; rw[if_pos (by omega)]) (fun b hb=>by rw[List.mem_singleton.1 hb]; exact hrb) hw'
  ·simp (disch:=omega) only[push_cast,qE,h0,h4]
   refine drawQT (by kernel_rfl) (by kernel_rfl) mixed (by kernel_rfl) ?_
   simp (disch:=omega) only[push_cast,qE,h0,h4]
   refine lOn Shp.eq mem0 rfl ?_
   simp (disch:=omega) only[push_cast,qE,h0,h4]
   refine lOn Shp.eq mem0 rfl ?_
   have hge2:=runP_ge letB s (blP s p)
   have hqi:blP s p≤i:=by rw[← hwe]; exact hge2
   simp (disch:=omega) only[push_cast,qE,h0,h4,Int.toNat_natCast]
   exact fun w' hw'=>PRet.leaf _ i [] (x:=(s.take i).drop (blP s p)) (q:=blP s i) (by unfold pWord; rw[hwe,if_neg (by omega)]) rfl hi ⟨rfl,rfl⟩ (by simp) hw'
end Go.Proofs.YtdmdgkpjjpijdaaGreatDoor
