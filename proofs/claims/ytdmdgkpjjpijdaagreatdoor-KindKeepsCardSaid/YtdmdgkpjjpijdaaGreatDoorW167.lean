/- YtdmdgkpjjpijdaaGreatDoor: the walk calculus: turns of lists of blocks. -/
import Derived.Test.YtdmdgkpjjpijdaaGreatDoorW164
namespace Go.Proofs.YtdmdgkpjjpijdaaGreatDoor
open Go Go.K
open Nat renaming reduceEqDiff → qE
open List renaming length_cons → qN, length_nil → qO
set_option maxRecDepth 100000
set_option linter.unusedVariables false
set_option linter.unusedSimpArgs false
set_option maxHeartbeats 4000000
theorem infoU8Q:(Tryz.prog.info? 5).map (fun i=>(i.zero,i.size,i.bytes))=some (some (.int .u8 0),1,1):=by kernel_rfl
theorem mustRaw_walk (wb w:World) (rb:Nat) (s:List UInt8) (p:Nat) (M:Own) (c:UInt8) (ci:Int) (hc:ci=c.toNat) (hs:s.length≤65536) (hp:p≤s.length) (hw:Sy wb (oRd rb s p::M) w) :
 Calls Tryz.prog 101 #[.pointer (some ⟨rb,0,none⟩),.int .u8 ci] w (fun e w'=>(∃ v L',e=.returned v∧Sy wb L' w'∧v=.tuple #[]∧s[blP s p]?=some c∧L'=oRd rb s (blP s p+1)::M)∨(∃ ch L',e=.panicked ch∧Sy wb L' w'∧ch=[faultE (blP s p)]∧s[blP s p]?≠some c∧L'=oRd rb s (blP s p)::M)):=by
 refine enterB (args:=[.pointer (some ⟨rb,0,none⟩),.int .u8 ci]) Tryz.func101 rfl Tryz.ntmps101 (congrArg Array.toList Tryz.results101) (by kernel_rfl) (by simp) hw ?_
 refine sp ?_
 refine callV en_37 (callX_two (fun L'=>s[blP s p]?=some c∧L'=oRd rb s (blP s p+1)::M) (fun L'=>s[blP s p]?≠some c∧L'=oRd rb s (blP s p)::M) (fun w' hw'=>take_walk wb w' rb s p M c ci hc hs hp hw') (fun L' hL'=>?_) (fun L' hL'=>?_))
 ·have h:=hL'.1
  have e:=hL'.2
  subst e
  simp (disch:=omega) only[push_cast,qE,Bool.not_true]
  rw[Vc]
  simp (disch:=omega) only[push_cast,qE,Bool.not_true]
  exact fun w' hw'=>.inl ⟨_,_,rfl,hw',rfl,h,rfl⟩
 ·have h:=hL'.1
  have e:=hL'.2
  subst e
  simp (disch:=omega) only[push_cast,qE,Bool.not_false]
  rw[Vc]
  simp (disch:=omega) only[push_cast,qE,Bool.not_false]
  refine lOn Shp.eq mem0 rfl ?_
  refine sp ?_
  refine callV en_73 (callX_fail (blP s p) ?_)
  refine sp ?_
  exact fun w' hw'=>.inr ⟨_,_,rfl,hw',rfl,h,rfl⟩
theorem convX_weak {P:Program} {src dst e:TypeId} {wb:World} {L L' R:Own} {v:Value} {n:Nat} {xs:List Value} {K:Value→World→Own→Prop} (hR:RowO wb e 1 R [] v n xs) (hs:∀ w,Sy wb L w→Sy wb L' w) (h:ConvX P src dst v wb L' (tag K)):ConvX P src dst v wb L (tag K):=by
 obtain ⟨a,c,rfl⟩:=hR.is_slice
 exact valX_weak hs h
theorem esc_len {t:List UInt8} {x:UInt8×Nat} (h:escT t=some x):0 < x.2∧x.2≤t.length:=by
 unfold escT at h
 split at h
 ·cases h; exact ⟨Nat.zero_lt_two,by omega⟩
 split at h
 ·cases h
 split at h
 ·cases h
 split at h
 ·cases h
 ·cases h; exact ⟨Nat.zero_lt_succ 3,by show 4≤t.length; omega⟩
structure QtI (w0:World) (rb:Nat) (s:List UInt8) (M:Own) (t0:PR (List UInt8)) (p:Nat) (wb:World) (e:Env) (ds:List Deferred) (L:Own):Prop where
 hw:wb=w0
 hds:ds=[]
 hp:p≤s.length
 h0:e 0=.pointer (some ⟨rb,0,none⟩)
 o:∃ (v:Value) (R:Own) (xs:List UInt8) (m:Nat),e 3=v∧RowO w0 5 1 R [] v xs.length (bytesV xs)∧xs.length≤p∧s.length - p < m∧(t0=(pRest s m p).and fun l r=>.ok (xs++l) r)∧L=oRd rb s p::(R++M)
theorem pr_cons {x:UInt8} {xs:List UInt8} (r:PR (List UInt8)):(r.and fun l r2=>PR.ok (x::l) r2).and (fun l r=>PR.ok (xs++l) r)=r.and fun l r=>PR.ok ((xs++[x])++l) r:=by
 cases r with
 | no q=>rfl
 | ok l q=>simp[PR.and]
theorem quoted_read (wb w:World) (rb:Nat) (s:List UInt8) (p:Nat) (M:Own) (hs:s.length≤65536) (hp:p≤s.length) (hrb:wb.heap.size≤rb) (hw:Sy wb (oRd rb s p::M) w) :
 Calls Tryz.prog 72 #[.pointer (some ⟨rb,0,none⟩)] w (PRet wb rb s M (pQuote s (blP s p)) fun t _ v K=>v=str t∧K=[]):=by
 refine enterB (args:=[.pointer (some ⟨rb,0,none⟩)]) Tryz.func72 rfl Tryz.ntmps72 (congrArg Array.toList Tryz.results72) (by kernel_rfl) (by simp) hw ?_
 refine sp ?_
 refine callV en_101 (callX_pan (S:=fun v L'=>v=.tuple #[]∧s[blP s p]?=some 34∧L'=oRd rb s (blP s p+1)::M) (SP:=fun ch L'=>ch=[faultE (blP s p)]∧s[blP s p]?≠some 34∧L'=oRd rb s (blP s p)::M) (fun w' hw'=>mustRaw_walk wb w' rb s p M 34 34 rfl hs hp hw') (fun v L' hv=>?_) (fun ch L' hv=>?_))
 rotate_left
 ·have e1:=hv.1
  have h:=hv.2.1
  have e2:=hv.2.2
  subst e1
  subst e2
  refine sp ?_
  exact fun w' hw'=>PRet.fall [oRd rb s (blP s p)] (by unfold pQuote; rw[if_neg h]) (fun b hb=>by rw[List.mem_singleton.1 hb]; exact hrb) hw'
 have e1:=hv.1
 have h34:=hv.2.1
 have e2:=hv.2.2
 subst e1
 subst e2
 clear hv
 have hlt:=(List.getElem?_eq_some_iff.1 h34).1
 have hq:pQuote s (blP s p)=(pRest s (s.length+1) (blP s p+1)).and fun t r=>.ok t (blP s r):=by unfold pQuote; rw[if_pos h34]
 refine sp ?_
 rw[Vb]
 refine sp ?_
 refine loopW (G:=Nat) (QtI wb rb s M (pRest s (s.length+1) (blP s p+1))) (fun p=>s.length - p) (blP s p+1) _ (fun w hw=>hw) (by kernel_rfl) ⟨rfl,rfl,by omega,rfl,.slice none 0 0,[],[],s.length+1,rfl,⟨rfl,.inl ⟨rfl,rfl,rfl⟩⟩,by simp,by omega,by
  cases pRest s (s.length+1) (blP s p+1)<;>rfl,rfl⟩ ?_
 rintro i wb e ds L ⟨rfl,rfl,hi,h0,v,R,xs,m,h3,hR,hxi,hm,ht,rfl⟩
 have hRn:∀ b∈R,wb.heap.size≤b.1:=RowO.new hR (by simp)
 have hfall:∀ q,pRest s m i=.no q→∀ w',Sy wb (oRd rb s i::(R++M)) w'→PRet wb rb s M (pQuote s (blP s p)) (fun t _ v K=>v=str t∧K=[]) (.panicked [faultE q]) w':=fun q hq2 w' hw'=>by
  refine PRet.fall (oRd rb s i::R) (by rw[hq,ht,hq2]; rfl) (fun b hb=>?_) hw'
  rcases List.mem_cons.1 hb with rfl|hb
  ·exact hrb
  ·exact hRn b hb
 obtain ⟨m,rfl⟩:∃ k,m=k+1:=⟨m - 1,by omega⟩
 rw[Vb]
 simp (disch:=omega) only[push_cast,qE,h0,h3]
 refine drawQT (by kernel_rfl) (by kernel_rfl) mixed (by kernel_rfl) ?_
 simp (disch:=omega) only[push_cast,qE,h0,h3]
 refine lOn Shp.eq mem0 rfl ?_
 simp (disch:=omega) only[push_cast,qE,h0,h3]
 refine lOn Shp.eq mem0 rfl ?_
 simp (disch:=omega) only[push_cast,qE,h0,h3]
 rw[Vc]
 simp (disch:=omega) only[push_cast,qE,h0,h3]
 refine cdD (fun hge=>?_) (fun hlt2=>?_)
 ·simp (disch:=omega) only[push_cast,qE,h0,h3]
  refine lOn Shp.eq mem0 rfl ?_
  simp (disch:=omega) only[push_cast,qE,h0,h3]
  refine callV en_73 (callX_fail s.length ?_)
  simp (disch:=omega) only[push_cast,qE,h0,h3]
  exact hfall _ (by rw[pRest,List.getElem?_eq_none (by omega)])
 have hat:=getD_at (s:=s) (i:=i) (by omega)
 simp (disch:=omega) only[push_cast,qE,h0,h3]
 refine drawQT (by kernel_rfl) (by kernel_rfl) mixed (by kernel_rfl) ?_
 simp (disch:=omega) only[push_cast,qE,h0,h3]
 refine lOn Shp.eq mem0 rfl ?_
 simp (disch:=omega) only[push_cast,qE,h0,h3]
 refine lOn Shp.eq mem0 rfl ?_
 simp (disch:=omega) only[push_cast,qE,h0,h3]
 rw[Vb]
 simp (disch:=omega) only[push_cast,qE,h0,h3]
 have q34:(((s.getD i 0).toNat:Int)=34)=(s.getD i 0=34):=u8_eq (by decide)
 have q92:(((s.getD i 0).toNat:Int)=92)=(s.getD i 0=92):=u8_eq (by decide)
 rw[Vc]
 simp (disch:=omega) only[push_cast,qE,h0,h3]
 refine cdD (fun hc=>?_) (fun hc=>?_)
 ·have c34:s.getD i 0=34:=by rw[← q34]; exact hc
  simp (disch:=omega) only[push_cast,qE,h0,h3]
  refine lOn Shp.eq mem0 rfl ?_
  simp (disch:=omega) only[push_cast,qE,h0,h3]
  refine sXa 0 rfl Siz.eq rfl rfl ?_
  simp (disch:=omega) only[push_cast,qE,h0,h3]
  have e9:oRd rb s (i+1)=(rb,Obj.cells (splice [str s,i64 i] 1 [i64 ((i:Int)+1)]).toArray 73 (0,0)):=by simp[splice]
  refine convX_weak (L':=R++(oRd rb s (i+1)::M)) hR (fun w hw=>?_) (convS un_108 Tryz.underlying5 Tryz.underlying9 (RowO.frame hR) ?_)
  ·rw[e9]
   exact hw.perm List.perm_middle.symm
  simp (disch:=omega) only[push_cast,qE,h0,h3]
  refine fun w' hw'=>PRet.leaf (str xs) (i+1) [] (x:=xs) (q:=blP s (i+1)) ?_ rfl (by omega) ⟨rfl,rfl⟩ (by simp) ?_
  ·rw[hq,ht,pRest,hat]
   simp only
   rw[if_pos c34]
   simp[PR.and]
  ·exact (hw'.perm List.perm_middle).mid [_] R hRn
 have n34:¬ s.getD i 0=34:=by rw[← q34]; exact hc
 simp (disch:=omega) only[push_cast,qE,h0,h3]
 rw[Vc]
 simp (disch:=omega) only[push_cast,qE,h0,h3]
 refine cdD (fun hc2=>?_) (fun hc2=>?_)
 ·have c92:s.getD i 0=92:=by rw[← q92]; exact hc2
  have hesc:=esc_eq s i (by omega)
  have hpr:pRest s (m+1) i=(pEsc s i).and fun x r=>(pRest s m r).and fun l r2=>.ok (x::l) r2:=by
   rw[pRest,hat]
   simp only
   rw[if_neg n34,if_pos c92]
  simp (disch:=omega) only[push_cast,qE,h0,h3]
  refine drawQT (by kernel_rfl) (by kernel_rfl) mixed (by kernel_rfl) ?_
  simp (disch:=omega) only[push_cast,qE,h0,h3]
  refine lOn Shp.eq mem0 rfl ?_
  simp (disch:=omega) only[push_cast,qE,h0,h3]
  refine lOn Shp.eq mem0 rfl ?_
  simp (disch:=omega) only[push_cast,qE,h0,h3,Int.toNat_natCast]
  have hor:escT (s.drop i)=none∨∃ x,escT (s.drop i)=some x:=by
   cases escT (s.drop i) with
   | none=>exact .inl rfl
   | some x=>exact .inr ⟨x,rfl⟩
  have hdl:(s.drop i).length=s.length - i:=List.length_drop ..
  refine hor.elim (fun he=>?_) (fun hx=>?_)
  ·refine qcallV en_102 (qcallX_is (.tuple #[.int .u8 0,i64 0]) (fun w' hw'=>(escaped_walk w' (s.drop i) (by omega)).mono (fun e w'' ⟨v,a1,a2,a3⟩=>⟨v,a1,a2,by rw[he] at a3; exact a3⟩)) ?_)
   simp (disch:=omega) only[push_cast,qE,h0,h3]
   rw[Vc]
   simp (disch:=omega) only[push_cast,qE,h0,h3]
   try refine cdD (fun _=>?_) (fun h=>absurd (by decide) h)
   try simp (disch:=omega) only[push_cast,qE,h0,h3]
   refine callV en_103 (callX_pan (S:=fun _ _=>False) (SP:=fun ch L'=>ch=[faultE (if cutT (s.drop i)=true then s.length else i)]∧L'=oRd rb s i::(R++M)) (fun w' hw'=>(cut_walk wb w' rb s i (R++M) hs (by omega) hw').mono fun e w'' ⟨he,hs⟩=>.inr ⟨_,_,he,hs,rfl,rfl⟩) (fun _ _ h=>h.elim) (fun ch L' hcl=>?_))
   have e1:=hcl.1
   have e2:=hcl.2
   subst e1
   subst e2
   simp (disch:=omega) only[push_cast,qE,h0,h3]
   exact hfall _ (by rw[hpr,hesc,he]; rfl)
  ·(refine Exists.elim (hx) (fun x hz=>?_); have he:=hz; clear hz)
   have hx2:=esc_len he
   refine qcallV en_102 (qcallX_is (.tuple #[.int .u8 x.1.toNat,i64 x.2]) (fun w' hw'=>(escaped_walk w' (s.drop i) (by omega)).mono (fun e w'' ⟨v,a1,a2,a3⟩=>⟨v,a1,a2,by rw[he] at a3; exact a3.1⟩)) ?_)
   simp (disch:=omega) only[push_cast,qE,h0,h3]
   rw[Vc]
   simp (disch:=omega) only[push_cast,qE,h0,h3]
   refine cdD (fun h=>by omega) (fun _=>?_)
   simp (disch:=omega) only[push_cast,qE,h0,h3]
   refine bs_108_1 (newI fun b9 hb9 hn9=>?_)
   simp (disch:=omega) only[push_cast,qE,h0,h3]
   refine valX_weak (L':=(b9,Obj.cells (bytesV [x.1]).toArray 5 (0,0))::(R++(oRd rb s i::M))) (fun w hw=>hw.perm (?_:List.Perm ((b9,Obj.cells (bytesV [x.1]).toArray 5 (0,0))::oRd rb s i::(R++M)) _)) (appendB [x.1] un_108 infoU8Q (RowO.frame hR) hb9 (by simp only[qN,qO]; omega) (fun v5 L5 hro5=>?_))
   ·exact List.perm_middle.symm.cons _
   (refine Exists.elim (RowO.unframe hro5) (fun R5 hz=>?_); have ez:=hz.1; subst ez; have hR5:=hz.2; clear hz)
   simp (disch:=omega) only[push_cast,qE,h0,h3]
   refine lOn Shp.eq (List.mem_append_right _ (.tail _ (.head _))) rfl ?_
   simp (disch:=omega) only[push_cast,qE,h0,h3]
   refine storeX_weak (L':=oRd rb s i::(R5++((b9,Obj.cells (bytesV [x.1]).toArray 5 (0,0))::M))) (fun w hw=>hw.perm (?_:List.Perm (R5++((b9,Obj.cells (bytesV [x.1]).toArray 5 (0,0))::oRd rb s i::M)) _)) (sXa 0 rfl Siz.eq rfl rfl ?_)
   ·exact (List.Perm.append_left R5 (List.Perm.swap _ _ _)).trans List.perm_middle
   simp (disch:=omega) only[push_cast,qE,h0,h3]
   have e9:oRd rb s (i+x.2)=(rb,Obj.cells (splice [str s,i64 i] 1 [i64 ((i:Int)+x.2)]).toArray 73 (0,0)):=by simp[splice]
   refine ⟨i+x.2,oRd rb s (i+x.2)::(R5++M),fun w hw=>?_,⟨rfl,rfl,by omega,h0,_,R5,xs++[x.1],m,rfl,hR5.cast (by simp) (by rw[bytesV_append]),by simp only[List.length_append,qN,qO]; omega,by omega,?_,rfl⟩,by omega⟩
   ·rw[e9]
    exact hw.mid (_::R5) [_] (fun p hp=>by rw[List.mem_singleton.1 hp]; exact hb9)
   ·rw[ht,show pRest s (m+1) i=(pRest s m (i+x.2)).and fun l r2=>.ok (x.1::l) r2 from by rw[hpr,hesc,he]; rfl,pr_cons]
 have n92:¬ s.getD i 0=92:=by rw[← q92]; exact hc2
 simp (disch:=omega) only[push_cast,qE,h0,h3]
 refine gT rfl (fun h32=>?_) (fun h32=>?_)
 ·simp (disch:=omega) only[push_cast,qE,h0,h3]
  rw[Vc]
  simp (disch:=omega) only[push_cast,qE,h0,h3]
  refine cdD (fun h126=>?_) (fun h126=>?_)
  ·simp (disch:=omega) only[push_cast,qE,h0,h3]
   refine bs_108_1 (newI fun b9 hb9 hn9=>?_)
   simp (disch:=omega) only[push_cast,qE,h0,h3]
   refine valX_weak (L':=(b9,Obj.cells (bytesV [s.getD i 0]).toArray 5 (0,0))::(R++(oRd rb s i::M))) (fun w hw=>hw.perm (?_:List.Perm ((b9,Obj.cells (bytesV [s.getD i 0]).toArray 5 (0,0))::oRd rb s i::(R++M)) _)) (appendB [s.getD i 0] un_108 infoU8Q (RowO.frame hR) hb9 (by simp only[qN,qO]; omega) (fun v5 L5 hro5=>?_))
   ·exact List.perm_middle.symm.cons _
   (refine Exists.elim (RowO.unframe hro5) (fun R5 hz=>?_); have ez:=hz.1; subst ez; have hR5:=hz.2; clear hz)
   simp (disch:=omega) only[push_cast,qE,h0,h3]
   refine lOn Shp.eq (List.mem_append_right _ (.tail _ (.head _))) rfl ?_
   simp (disch:=omega) only[push_cast,qE,h0,h3]
   refine storeX_weak (L':=oRd rb s i::(R5++((b9,Obj.cells (bytesV [s.getD i 0]).toArray 5 (0,0))::M))) (fun w hw=>hw.perm (?_:List.Perm (R5++((b9,Obj.cells (bytesV [s.getD i 0]).toArray 5 (0,0))::oRd rb s i::M)) _)) (sXa 0 rfl Siz.eq rfl rfl ?_)
   ·exact (List.Perm.append_left R5 (List.Perm.swap _ _ _)).trans List.perm_middle
   simp (disch:=omega) only[push_cast,qE,h0,h3]
   have e9:oRd rb s (i+1)=(rb,Obj.cells (splice [str s,i64 i] 1 [i64 ((i:Int)+1)]).toArray 73 (0,0)):=by simp[splice]
   refine ⟨i+1,oRd rb s (i+1)::(R5++M),fun w hw=>?_,⟨rfl,rfl,by omega,h0,_,R5,xs++[s.getD i 0],m,rfl,hR5.cast (by simp) (by rw[bytesV_append]),by simp only[List.length_append,qN,qO]; omega,by omega,?_,rfl⟩,by omega⟩
   ·rw[e9]
    exact hw.mid (_::R5) [_] (fun p hp=>by rw[List.mem_singleton.1 hp]; exact hb9)
   ·rw[ht,show pRest s (m+1) i=(pRest s m (i+1)).and fun l r2=>.ok (s.getD i 0::l) r2 from by rw[pRest,hat]; simp only; rw[if_neg n34,if_neg n92,if_pos ⟨by omega,by omega⟩],pr_cons]
  ·simp (disch:=omega) only[push_cast,qE,h0,h3]
   refine lOn Shp.eq mem0 rfl ?_
   simp (disch:=omega) only[push_cast,qE,h0,h3]
   refine callV en_73 (callX_fail i ?_)
   simp (disch:=omega) only[push_cast,qE,h0,h3]
   exact hfall _ (by rw[pRest,hat]; simp only; rw[if_neg n34,if_neg n92,if_neg (by omega)])
 ·simp (disch:=omega) only[push_cast,qE,h0,h3]
  rw[Vc]
  simp (disch:=omega) only[push_cast,qE,h0,h3]
  refine lOn Shp.eq mem0 rfl ?_
  simp (disch:=omega) only[push_cast,qE,h0,h3]
  refine callV en_73 (callX_fail i ?_)
  simp (disch:=omega) only[push_cast,qE,h0,h3]
  exact hfall _ (by rw[pRest,hat]; simp only; rw[if_neg n34,if_neg n92,if_neg (by omega)])
end Go.Proofs.YtdmdgkpjjpijdaaGreatDoor
namespace Go.K
open Go
open Nat renaming reduceEqDiff → qE
open List renaming length_cons → qN, length_nil → qO
def wt (f:Nat×Obj→Nat):Own→Nat
 | []=>0
 | x::l=>f x+wt f l
theorem wt_nil (f:Nat×Obj→Nat):wt f []=0:=rfl
theorem wt_cons (f:Nat×Obj→Nat) (x:Nat×Obj) (l:Own):wt f (x::l)=f x+wt f l:=rfl
theorem wt_append (f:Nat×Obj→Nat):∀ l m:Own,wt f (l++m)=wt f l+wt f m
 | [],m=>by rw[wt_nil,Nat.zero_add]; rfl
 | x::l,m=>by rw[List.cons_append,wt_cons,wt_cons,wt_append f l m,Nat.add_assoc]
open Classical in
theorem wt_count (a:Nat×Obj):∀ l:Own,wt (fun x=>if x=a then 1 else 0) l=l.count a
 | []=>by simp[wt_nil]
 | x::l=>by rw[wt_cons,wt_count a l,List.count_cons,Nat.add_comm]; simp
open Classical in
theorem permC {l m:Own} (h:∀ f:Nat×Obj→Nat,wt f l=wt f m):l.Perm m:=List.perm_iff_count.2 fun a=>by rw[← wt_count,← wt_count,h]
theorem pC {l m:Own} (h:∀ f:Nat×Obj→Nat,wt f l=wt f m:=by intro f; simp only[wt_append,wt_cons,wt_nil]<;>omega):l.Perm m:=permC h
end Go.K
