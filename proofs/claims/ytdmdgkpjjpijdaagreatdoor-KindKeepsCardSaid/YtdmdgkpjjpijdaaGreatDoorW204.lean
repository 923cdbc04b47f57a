/- YtdmdgkpjjpijdaaGreatDoor: walks, part 204: a row whose place may lie within its block, and which grows. -/
import Derived.Test.YtdmdgkpjjpijdaaGreatDoorW115
namespace Go.Proofs.YtdmdgkpjjpijdaaGreatDoor
open Go Go.K
open Nat renaming reduceEqDiff → qE
open List renaming mem_append_right → qR, length_append → qA, getElem?_eq_getElem → qH
set_option maxRecDepth 100000
set_option linter.unusedVariables false
set_option linter.unusedSimpArgs false
set_option maxHeartbeats 8000000
mutual
theorem wideF_mono {n m:Nat} (hnm:n≤m):∀ (f:Fld),wideF n f=true→wideF m f=true
 | .mk _ _ _ _ _ _ sub,h=>by
  rw[wideF,Bool.and_eq_true,decide_eq_true_eq] at h ⊢
  exact ⟨Nat.le_trans h.1 hnm,wideL_mono hnm sub h.2⟩
theorem wideL_mono {n m:Nat} (hnm:n≤m):∀ (l:List Fld),wideL n l=true→wideL m l=true
 | [],_=>by rw[wideL]
 | f::l,h=>by
  rw[wideL,Bool.and_eq_true] at h ⊢
  exact ⟨wideF_mono hnm f h.1,wideL_mono hnm l h.2⟩
end
theorem few_notes {l:List Fld} {nt:List NoteT} (h:mayP l nt=true):nt.length≤16:=by
 unfold mayP checkP at h
 by_cases h1:32 < l.length
 ·rw[if_pos h1] at h; simp at h
 rw[if_neg h1] at h
 by_cases h2:16 < nt.length
 ·rw[if_pos h2] at h; simp at h
 omega
theorem parse_none {t:List UInt8} (h:(parseP t).e≠0):(parseP t).l=[]∧(parseP t).nt=[]:=by
 unfold parseP at h ⊢
 split
 ·exact ⟨rfl,rfl⟩
 rename_i h1
 rw[if_neg h1] at h
 split
 ·exact ⟨rfl,rfl⟩
 rename_i x q h2
 rw[h2] at h
 simp only at h ⊢
 split
 ·rename_i h3
  rw[if_pos h3] at h
  exact absurd rfl h
 ·exact ⟨rfl,rfl⟩
theorem parse_few (t:List UInt8):(parseP t).nt.length≤16∧(parseP t).l.length≤1048576∧wideL 1048576 (parseP t).l=true:=by
 by_cases h:(parseP t).e=0
 ·have h1:=(parse_may h).1
  have h2:=small_may h1
  exact ⟨few_notes h1,by omega,wideL_mono (by omega) _ (okT_wide _ h2.1)⟩
 ·obtain ⟨h1,h2⟩:=parse_none h
  rw[h1,h2]
  exact ⟨by simp,by simp,by rw[wideL]⟩
abbrev oSm (b:Nat) (a:Option Addr) (n c:Nat) (na:Option Addr) (m nc:Nat):Nat×Obj:=(qb4 b a n c na m nc)
def SchO (L:Own) (b:Nat) (t:List UInt8):Prop:=∃ (a:Option Addr) (c:Nat) (na:Option Addr) (nc:Nat) (B1 B2:Own),oSm b a (parseP t).l.length c na (parseP t).nt.length nc∈L∧OwS (parseP t).l B1 a c∧OwN (parseP t).nt B2 na nc∧(∀ p∈B1,p∈L)∧∀ p∈B2,p∈L
theorem SchO.mono {L L':Own} {b:Nat} {t:List UInt8} (h:SchO L b t) (hs:∀ p∈L,p∈L'):SchO L' b t:=by
 obtain ⟨a,c,na,nc,B1,B2,h1,h2,h3,h4,h5⟩:=h
 exact ⟨a,c,na,nc,B1,B2,hs _ h1,h2,h3,fun p hp=>hs p (h4 p hp),fun p hp=>hs p (h5 p hp)⟩
def NoY (n:Nat) (K:Own) (a:Option Addr) (c:Nat):Prop:=(n=0∧a=none∧c=0∧K=[])∨∃ (b:Nat) (cs:List Value),a=some ⟨b,0,none⟩∧K=[(b,Obj.cells cs.toArray 90 (0,0))]∧n≤c∧c≤maxLen∧cs.length=c * 2
theorem OwN.y {nt:List NoteQ} {K:Own} {a:Option Addr} {c:Nat} (h:OwN nt K a c):NoY nt.length K a c:=by
 rcases h with ⟨rfl,h1,h2,h3⟩|⟨b,cs,h1,h2,h3,h4,h5,_⟩
 ·exact .inl ⟨rfl,h1,h2,h3⟩
 ·exact .inr ⟨b,cs,h1,h2,h3,h4,h5⟩
theorem NoY.row {w0:World} {n:Nat} {K:Own} {a:Option Addr} {c:Nat} (M:Own) (h:NoY n K a c) (hK:∀ p∈K,w0.heap.size≤p.1):∃ xs,RowK w0 90 2 (fun M0=>∀ p∈M0,w0.heap.size≤p.1) (K++M) M (.slice a n c) n xs:=by
 rcases h with ⟨rfl,rfl,rfl,rfl⟩|⟨b,cs,rfl,rfl,h1,h2,h3⟩
 ·exact ⟨[],.inr ⟨[],by simp,rfl,.inl ⟨rfl,rfl,rfl⟩⟩⟩
 ·refine ⟨cs.take (n * 2),.inl ⟨by rw[List.length_take]; omega,b,c,cs,rfl,rfl,h1,h2,by omega,rfl,fun cs' _ _ p hp=>?_⟩⟩
  rw[List.mem_singleton.1 hp]
  exact hK (b,Obj.cells cs.toArray 90 (0,0)) (.head _)
structure KtS (w0:World) (t o:List UInt8) (a1:Option Addr) (c1:Nat) (na1:Option Addr) (nc1:Nat) (b5 b8 b11 b14 b17:Nat) (RR:Own):Prop where
 m5:oSm b5 a1 (parseP t).l.length c1 na1 (parseP t).nt.length nc1∈RR
 hb:SchO RR b8 t
 ho:SchO RR b11 o
 hw:SchO RR b14 t
 ht:SchO RR b17 o
 hn:∀ p∈RR,w0.heap.size≤p.1
structure KtE (t:List UInt8) (b5 b8 b11 b14 b17:Nat) (e:Env):Prop where
 h0:e 0=str t
 h5:e 5=.pointer (some ⟨b5,0,none⟩)
 h8:e 8=.pointer (some ⟨b8,0,none⟩)
 h11:e 11=.pointer (some ⟨b11,0,none⟩)
 h14:e 14=.pointer (some ⟨b14,0,none⟩)
 h17:e 17=.pointer (some ⟨b17,0,none⟩)
structure KtA (w0:World) (t:List UInt8) (na1:Option Addr) (nc1:Nat) (b5 b8 b11 b14 b17:Nat) (M:Own) (i:Nat) (wb:World) (e:Env) (ds:List Deferred) (L:Own):Prop where
 hw:wb=w0
 hds:ds=[]
 o:∃ K:Own,L=K++M∧NoY (parseP t).nt.length K na1 nc1∧∀ p∈K,w0.heap.size≤p.1
 hi:i≤(parseP t).nt.length
 he:KtE t b5 b8 b11 b14 b17 e
 h65:e 65=i64 (parseP t).nt.length
 h66:e 66=i64 i
structure KtB (w0:World) (t:List UInt8) (b5 b8 b11 b14 b17:Nat) (M:Own) (n0 k:Nat) (wb:World) (e:Env) (ds:List Deferred) (L:Own):Prop where
 hw:wb=w0
 hds:ds=[]
 o:∃ (v:Value) (xs:List Value),e 21=v∧RowK w0 90 2 (fun M0=>∀ p∈M0,w0.heap.size≤p.1) L M v (n0+k) xs
 hk:k≤20
 he:KtE t b5 b8 b11 b14 b17 e
 h22:e 22=i64 k
theorem keepsTexts_walk (w:World) (hs:SaysAt w) (hl:LibAt w) (t o:List UInt8) (ht:t.length≤9223372036854775807) (ho:o.length≤9223372036854775807) :
 Calls Tryz.prog 12 #[str t,str o] w (Rets w (Is (.bool true))):=by
 refine enterB (args:=[str t,str o]) Tryz.func12 rfl Tryz.ntmps12 (congrArg Array.toList Tryz.results12) (by kernel_rfl) (by simp) (Sy.refl w) ?_
 refine sp ?_
 refine callV en_6 (cNw (fun w' hw'=>parse_walk w' (hs.mono hw' (by simp)) (hl.mono hw' (by simp)) t ht) (fun v M1 hM1 hn1 hS1=>?_))
 (refine xe7 (hS1) (fun a1 c1 na1 nc1 A1 B1 R1 hz=>?_); have ez:=hz.1; subst ez; have ez:=hz.2.1; subst ez; have hA1:=hz.2.2.1; have hB1:=hz.2.2.2; clear hz)
 simp (maxSteps:=1000000) (disch:=omega) only[push_cast,qE]
 refine newI (fun b5 hb5 hnb5=>?_)
 simp (maxSteps:=1000000) (disch:=omega) only[push_cast,qE]
 refine sXa 0 rfl Siz.eq rfl rfl ?_
 simp (maxSteps:=1000000) (disch:=omega) only[push_cast,qE]
 obtain ⟨L1,hL1⟩:∃ L:Own,L=oSm b5 a1 (parseP t).l.length c1 na1 (parseP t).nt.length nc1::(A1++(B1++R1)):=⟨_,rfl⟩
 have g1:∀ p∈L1,w.heap.size≤p.1:=(by rw[hL1]; exact (nC hb5 hM1))
 refine callV en_6 (callX_weak (L':=L1) (fun w hw=>by rw[hL1]; exact hw) (cNw (fun w' hw'=>parse_walk w' (hs.mono hw' g1) (hl.mono hw' g1) t ht) (fun v M2 hM2 hn2 hS2=>?_)))
 (refine xe7 (hS2) (fun a2 c2 na2 nc2 A2 B2 R2 hz=>?_); have ez:=hz.1; subst ez; have ez:=hz.2.1; subst ez; have hA2:=hz.2.2.1; have hB2:=hz.2.2.2; clear hz)
 simp (maxSteps:=1000000) (disch:=omega) only[push_cast,qE]
 refine newI (fun b8 hb8 hnb8=>?_)
 simp (maxSteps:=1000000) (disch:=omega) only[push_cast,qE]
 refine sXa 0 rfl Siz.eq rfl rfl ?_
 simp (maxSteps:=1000000) (disch:=omega) only[push_cast,qE]
 obtain ⟨L2,hL2⟩:∃ L:Own,L=oSm b8 a2 (parseP t).l.length c2 na2 (parseP t).nt.length nc2::((A2++(B2++R2))++L1):=⟨_,rfl⟩
 have g2:∀ p∈L2,w.heap.size≤p.1:=(by rw[hL2]; exact (nC hb8 (nA hM2 g1)))
 refine callV en_6 (callX_weak (L':=L2) (fun w hw=>by rw[hL2]; exact hw) (cNw (fun w' hw'=>parse_walk w' (hs.mono hw' g2) (hl.mono hw' g2) o ho) (fun v M3 hM3 hn3 hS3=>?_)))
 (refine xe7 (hS3) (fun a3 c3 na3 nc3 A3 B3 R3 hz=>?_); have ez:=hz.1; subst ez; have ez:=hz.2.1; subst ez; have hA3:=hz.2.2.1; have hB3:=hz.2.2.2; clear hz)
 simp (maxSteps:=1000000) (disch:=omega) only[push_cast,qE]
 refine newI (fun b11 hb11 hnb11=>?_)
 simp (maxSteps:=1000000) (disch:=omega) only[push_cast,qE]
 refine sXa 0 rfl Siz.eq rfl rfl ?_
 simp (maxSteps:=1000000) (disch:=omega) only[push_cast,qE]
 obtain ⟨L3,hL3⟩:∃ L:Own,L=oSm b11 a3 (parseP o).l.length c3 na3 (parseP o).nt.length nc3::((A3++(B3++R3))++L2):=⟨_,rfl⟩
 have g3:∀ p∈L3,w.heap.size≤p.1:=(by rw[hL3]; exact (nC hb11 (nA hM3 g2)))
 refine callV en_7 (callX_weak (L':=L3) (fun w hw=>by rw[hL3]; exact hw) (cNw (fun w' hw'=>parseR_walk w' t ht) (fun v M4 hM4 hn4 hS4=>?_)))
 (refine xe7 (hS4) (fun a4 c4 na4 nc4 A4 B4 R4 hz=>?_); have ez:=hz.1; subst ez; have ez:=hz.2.1; subst ez; have hA4:=hz.2.2.1; have hB4:=hz.2.2.2; clear hz)
 simp (maxSteps:=1000000) (disch:=omega) only[push_cast,qE]
 refine newI (fun b14 hb14 hnb14=>?_)
 simp (maxSteps:=1000000) (disch:=omega) only[push_cast,qE]
 refine sXa 0 rfl Siz.eq rfl rfl ?_
 simp (maxSteps:=1000000) (disch:=omega) only[push_cast,qE]
 obtain ⟨L4,hL4⟩:∃ L:Own,L=oSm b14 a4 (parseP t).l.length c4 na4 (parseP t).nt.length nc4::((A4++(B4++R4))++L3):=⟨_,rfl⟩
 have g4:∀ p∈L4,w.heap.size≤p.1:=(by rw[hL4]; exact (nC hb14 (nA hM4 g3)))
 refine callV en_7 (callX_weak (L':=L4) (fun w hw=>by rw[hL4]; exact hw) (cNw (fun w' hw'=>parseR_walk w' o ho) (fun v M5 hM5 hn5 hS5=>?_)))
 (refine xe7 (hS5) (fun a5 c5 na5 nc5 A5 B5 R5 hz=>?_); have ez:=hz.1; subst ez; have ez:=hz.2.1; subst ez; have hA5:=hz.2.2.1; have hB5:=hz.2.2.2; clear hz)
 simp (maxSteps:=1000000) (disch:=omega) only[push_cast,qE]
 refine newI (fun b17 hb17 hnb17=>?_)
 simp (maxSteps:=1000000) (disch:=omega) only[push_cast,qE]
 refine sXa 0 rfl Siz.eq rfl rfl ?_
 simp (maxSteps:=1000000) (disch:=omega) only[push_cast,qE]
 obtain ⟨L5,hL5⟩:∃ L:Own,L=oSm b17 a5 (parseP o).l.length c5 na5 (parseP o).nt.length nc5::((A5++(B5++R5))++L4):=⟨_,rfl⟩
 have g5:∀ p∈L5,w.heap.size≤p.1:=(by rw[hL5]; exact (nC hb17 (nA hM5 g4)))
 obtain ⟨RR,hRR⟩:∃ RR:Own,RR=oSm b17 a5 (parseP o).l.length c5 na5 (parseP o).nt.length nc5::((A5++(B5++R5))++(oSm b14 a4 (parseP t).l.length c4 na4 (parseP t).nt.length nc4::((A4++(B4++R4))++(oSm b11 a3 (parseP o).l.length c3 na3 (parseP o).nt.length nc3::((A3++(B3++R3))++(oSm b8 a2 (parseP t).l.length c2 na2 (parseP t).nt.length nc2::((A2++(B2++R2))++(oSm b5 a1 (parseP t).l.length c1 na1 (parseP t).nt.length nc1::R1)))))))):=⟨_,rfl⟩
 have hpm:L5.Perm (A1++(B1++RR)):=by
  rw[hL5,hL4,hL3,hL2,hL1,hRR]
  exact pC
 have gR:∀ p∈RR,w.heap.size≤p.1:=fun p hp=>g5 p (hpm.mem_iff.2 (qR _ (qR _ hp)))
 have gA:∀ p∈A1,w.heap.size≤p.1:=fun p hp=>g5 p (hpm.mem_iff.2 (List.mem_append_left _ hp))
 have gB:∀ p∈B1,w.heap.size≤p.1:=fun p hp=>g5 p (hpm.mem_iff.2 (qR _ (List.mem_append_left _ hp)))
 have hst:KtS w t o a1 c1 na1 nc1 b5 b8 b11 b14 b17 RR:=by
  refine ⟨by rw[hRR]; simp,⟨a2,c2,na2,nc2,A2,B2,by rw[hRR]; simp,hA2,hB2,fun p hp=>by rw[hRR]; simp[hp],fun p hp=>by rw[hRR]; simp[hp]⟩,⟨a3,c3,na3,nc3,A3,B3,by rw[hRR]; simp,hA3,hB3,fun p hp=>by rw[hRR]; simp[hp],fun p hp=>by rw[hRR]; simp[hp]⟩,⟨a4,c4,na4,nc4,A4,B4,by rw[hRR]; simp,hA4,hB4,fun p hp=>by rw[hRR]; simp[hp],fun p hp=>by rw[hRR]; simp[hp]⟩,⟨a5,c5,na5,nc5,A5,B5,by rw[hRR]; simp,hA5,hB5,fun p hp=>by rw[hRR]; simp[hp],fun p hp=>by rw[hRR]; simp[hp]⟩,gR⟩
 clear hRR
 have hR5:∀ p∈RR,p∈L5:=fun p hp=>hpm.mem_iff.2 (qR _ (qR _ hp))
 obtain ⟨xa,ya,ua,va,Da,Ea,ma,oa,na,sa,ra⟩:=hst.hb.mono hR5
 obtain ⟨xb,yb,ub,vb,Db,Eb,mb,ob,nb,sb,rb⟩:=hst.hw.mono hR5
 refine lAg Shp.eq (by rw[hL5] at ma; exact ma) rfl rfl ?_
 simp (maxSteps:=1000000) (disch:=omega) only[push_cast,qE]
 refine lAg Shp.eq (by rw[hL5] at mb; exact mb) rfl rfl ?_
 simp (maxSteps:=1000000) (disch:=omega) only[push_cast,qE]
 refine callV en_8 (callX_weak (L':=L5) (fun w hw=>by rw[hL5]; exact hw) (cIs (fun w' hw'=>eqSchema_walk w' w'.heap.size w'.heap.size (parseP t).l (parseP t).nt xa xb ya yb ua ub va vb (Nat.le_refl _) (Nat.le_refl _) (schP_own oa na hw' sa ra) (schP_own ob nb hw' sb rb)) ?_))
 clear ma oa na sa ra mb ob nb sb rb
 simp (maxSteps:=1000000) (disch:=omega) only[push_cast,qE,Bool.not_true]
 rw[Vc]
 simp (maxSteps:=1000000) (disch:=omega) only[push_cast,qE]
 refine lOn Shp.eq (hR5 _ hst.m5) rfl ?_
 simp (maxSteps:=1000000) (disch:=omega) only[push_cast,qE]
 have gAll:∀ (A B:Own),(∀ p∈A,w.heap.size≤p.1)→(∀ p∈B,w.heap.size≤p.1)→∀ p∈A++(B++RR),w.heap.size≤p.1:=fun A B h1 h2 p hp=>by
  rcases List.mem_append.1 hp with hp|hp
  ·exact h1 p hp
  rcases List.mem_append.1 hp with hp|hp
  ·exact h2 p hp
  ·exact gR p hp
 obtain ⟨few1,few2,few3⟩:=parse_few t
 refine callV en_27 (callX_base (fun w' hw'=>spoil_walk w w' (parseP t).l A1 (B1++RR) a1 c1 [115,112,111,105,108,116] (by simp) hA1 (hw'.perm hpm) (gAll A1 B1 gA gB)) ?_)
 rintro e' w' ⟨rfl,l2,A6,q1,q2,q3,q6,q4,gA6⟩
 refine ⟨_,A6++(B1++RR),rfl,q4,?_⟩
 clear q4 w'
 simp (maxSteps:=1000000) (disch:=omega) only[push_cast,qE]
 refine lOn Shp.eq (qR _ (qR _ hst.m5)) rfl ?_
 simp (maxSteps:=1000000) (disch:=omega) only[push_cast,qE]
 rw[Vb]
 simp (maxSteps:=1000000) (disch:=omega) only[push_cast,qE]
 refine loopW (G:=Nat) (KtA w t na1 nc1 b5 b8 b11 b14 b17 (A6++RR)) (fun i=>(parseP t).nt.length - i) 0 (B1++(A6++RR)) (fun w hw=>hw.perm (List.perm_append_comm_assoc A6 B1 RR)) (by kernel_rfl) ⟨rfl,rfl,⟨B1,rfl,hB1.y,gB⟩,by omega,⟨rfl,rfl,rfl,rfl,rfl,rfl⟩,rfl,rfl⟩ ?_
 rintro i wb e ds L ⟨rfl,rfl,⟨K,rfl,hK,hKn⟩,hi,⟨h0,h5,h8,h11,h14,h17⟩,h65,h66⟩
 simp (disch:=omega) only[push_cast,qE,h0,h5,h8,h11,h14,h17,h65,h66]
 rw[Vc]
 simp (disch:=omega) only[push_cast,qE,h0,h5,h8,h11,h14,h17,h65,h66]
 refine cdD (fun hlt=>?_) (fun hge=>?_)
 ·rcases hK with ⟨k0,_⟩|⟨nb,cs,rfl,rfl,k1,k2,k3⟩
  ·omega
  simp (disch:=omega) only[push_cast,qE,h0,h5,h8,h11,h14,h17,h65,h66]
  rw[Vb]
  simp (disch:=omega) only[push_cast,qE,h0,h5,h8,h11,h14,h17,h65,h66]
  refine lOn Shp.eq (.tail _ (qR _ hst.m5)) rfl ?_
  simp (disch:=omega) only[push_cast,qE,h0,h5,h8,h11,h14,h17,h65,h66]
  refine stX 0 rfl Siz.eq rfl rfl (by simp[Value.oneCell']) (by omega) ?_
  simp (disch:=omega) only[push_cast,qE,h0,h5,h8,h11,h14,h17,h65,h66]
  refine ⟨i+1,_,fun w hw=>hw,⟨rfl,rfl,⟨[(nb,Obj.cells _ 90 (0,0))],rfl,.inr ⟨nb,_,rfl,rfl,k1,k2,?_⟩,fun p hp=>?_⟩,by omega,⟨h0,h5,h8,h11,h14,h17⟩,h65,uu⟩,by omega⟩
  ·simp only[qA,List.length_take,List.length_cons,List.length_drop,List.length_nil]; omega
  ·rw[List.mem_singleton.1 hp]
   exact hKn (nb,Obj.cells cs.toArray 90 (0,0)) (.head _)
 have hG:∀ w',Sy wb (K++(A6++RR)) w'→Calls Tryz.prog 28 #[.slice a1 (parseP t).l.length c1,str [103,114,111,119,110]] w' (fun e w'=>e=.returned (.tuple #[])∧∃ K':Own,OwS l2 K' a1 c1∧Sy wb (K'++(K++RR)) w'∧∀ p∈K',wb.heap.size≤p.1):=fun w' hw'=>by
  have h:=growF_walk wb w' l2 A6 (K++RR) a1 c1 [103,114,111,119,110] (by simp) q1 (by omega) (q6 _ few3) (hw'.perm (List.perm_append_comm_assoc K A6 RR)) (gAll A6 K gA6 hKn)
  rw[q2] at h
  exact h
 simp (disch:=omega) only[push_cast,qE,h0,h5,h8,h11,h14,h17,h65,h66]
 refine lOn Shp.eq (qR _ (qR _ hst.m5)) rfl ?_
 simp (disch:=omega) only[push_cast,qE,h0,h5,h8,h11,h14,h17,h65,h66]
 refine callV en_28 (callX_base hG ?_)
 rintro e' w' ⟨rfl,A7,z1,z2,gA7⟩
 refine ⟨_,A7++(K++RR),rfl,z2,?_⟩
 clear z2 w' hG
 simp (disch:=omega) only[push_cast,qE,h0,h5,h8,h11,h14,h17,h65,h66]
 refine lOn Shp.eq (qR _ (qR _ hst.m5)) rfl ?_
 simp (disch:=omega) only[push_cast,qE,h0,h5,h8,h11,h14,h17,h65,h66]
 rw[Vb]
 simp (disch:=omega) only[push_cast,qE,h0,h5,h8,h11,h14,h17,h65,h66]
 obtain ⟨xs0,hrow0⟩:=hK.row (w0:=wb) (A7++RR) hKn
 refine loopW (G:=Nat) (KtB wb t b5 b8 b11 b14 b17 (A7++RR) (parseP t).nt.length) (fun k=>20 - k) 0 (K++(A7++RR)) (fun w hw=>hw.perm (List.perm_append_comm_assoc A7 K RR)) (by kernel_rfl) ⟨rfl,rfl,⟨_,xs0,uu,hrow0⟩,by omega,⟨h0,h5,h8,h11,h14,h17⟩,rfl⟩ ?_
 clear h0 h5 h8 h11 h14 h17 h65 h66 e hrow0
 rintro k wb e ds L ⟨rfl,rfl,⟨v,xs',h21,hrow⟩,hk,⟨h0,h5,h8,h11,h14,h17⟩,h22⟩
 have gAR:∀ p∈A7++RR,wb.heap.size≤p.1:=gAll [] A7 (by simp) gA7
 have hLn:=hrow.new (fun M0 h=>h) gAR
 simp (disch:=omega) only[push_cast,qE,h0,h5,h8,h11,h14,h17,h21,h22]
 rw[Vc]
 simp (disch:=omega) only[push_cast,qE,h0,h5,h8,h11,h14,h17,h21,h22]
 refine cdD (fun hlt=>?_) (fun hge=>?_)
 ·simp (disch:=omega) only[push_cast,qE,h0,h5,h8,h11,h14,h17,h21,h22]
  rw[Vb]
  simp (disch:=omega) only[push_cast,qE,h0,h5,h8,h11,h14,h17,h21,h22]
  refine bs_25_1 (newI fun b9 hb9 hn9=>?_)
  simp (disch:=omega) only[push_cast,qE,h0,h5,h8,h11,h14,h17,h21,h22]
  obtain ⟨L2,hrow2,hs2⟩:=hrow.over (b9,Obj.cells #[str [103,114,111,119,110],str []] 90 (0,0))
  refine valX_weak hs2 (appendK un_25 infoNote rfl (by decide) (by decide) (m:=1) (news:=[str [103,114,111,119,110],str []]) hrow2 rfl hrow2.reads (by simp[Value.oneCell']) (by simp only[maxLen]; omega) (by omega) (fun v5 L5 hrow5=>?_))
  simp (disch:=omega) only[push_cast,qE,h0,h5,h8,h11,h14,h17,h21,h22]
  obtain ⟨L6,hrow6,hs6⟩:=hrow5.shrink _ hb9
  exact ⟨k+1,L6,hs6,⟨rfl,rfl,⟨_,_,rfl,hrow6⟩,by omega,⟨h0,h5,h8,h11,h14,h17⟩,uu⟩,by omega⟩
 obtain ⟨M0,gM0,hs0⟩:=hrow.ends
 have g6:∀ p∈M0++(A7++RR),wb.heap.size≤p.1:=gAll M0 A7 gM0 gA7
 simp (disch:=omega) only[push_cast,qE,h0,h5,h8,h11,h14,h17,h21,h22]
 refine callV en_6 (callX_weak hs0 (cNw (fun w' hw'=>parse_walk w' (hs.mono hw' g6) (hl.mono hw' g6) t ht) (fun v M6 hM6 hn6 hS6=>?_)))
 (refine xe7 (hS6) (fun a6 c6 na6 nc6 A8 B8 R8 hz=>?_); have ez:=hz.1; subst ez; have ez:=hz.2.1; subst ez; have hA8:=hz.2.2.1; have hB8:=hz.2.2.2; clear hz)
 simp (disch:=omega) only[push_cast,qE,h0,h5,h8,h11,h14,h17,h21,h22]
 refine newI (fun b23 hb23 hnb23=>?_)
 simp (disch:=omega) only[push_cast,qE,h0,h5,h8,h11,h14,h17,h21,h22]
 refine sXa 0 rfl Siz.eq rfl rfl ?_
 simp (disch:=omega) only[push_cast,qE,h0,h5,h8,h11,h14,h17,h21,h22]
 obtain ⟨L9,hL9⟩:∃ L:Own,L=oSm b23 a6 (parseP t).l.length c6 na6 (parseP t).nt.length nc6::((A8++(B8++R8))++(M0++(A7++RR))):=⟨_,rfl⟩
 have hR9:∀ p∈RR,p∈L9:=fun p hp=>by rw[hL9]; exact .tail _ (qR _ (qR _ (qR _ hp)))
 have g9:∀ p∈L9,wb.heap.size≤p.1:=(by rw[hL9]; exact (nC hb23 (nA hM6 g6)))
 have hc:SchO L9 b23 t:=⟨a6,c6,na6,nc6,A8,B8,by rw[hL9]; simp,hA8,hB8,fun p hp=>by rw[hL9]; simp[hp],fun p hp=>by rw[hL9]; simp[hp]⟩
 obtain ⟨xa,ya,ua,va,Da,Ea,ma,oa,na,sa,ra⟩:=hst.hb.mono hR9
 obtain ⟨xb,yb,ub,vb,Db,Eb,mb,ob,nb,sb,rb⟩:=hst.hw.mono hR9
 obtain ⟨xc,yc,uc,vc,Dc,Ec,mc,oc,nc,sc,rc⟩:=hst.ho.mono hR9
 obtain ⟨xd,yd,ud,vd,Dd,Ed,md,od,nd,sd,rd⟩:=hst.ht.mono hR9
 obtain ⟨xe,ye,ue,ve,De,Ee,me,oe,ne,se,re⟩:=hc
 refine lAg Shp.eq (by rw[hL9] at ma; exact ma) rfl rfl ?_
 simp (disch:=omega) only[push_cast,qE,h0,h5,h8,h11,h14,h17]
 refine lAg Shp.eq (by rw[hL9] at mb; exact mb) rfl rfl ?_
 simp (disch:=omega) only[push_cast,qE,h0,h5,h8,h11,h14,h17]
 refine callV en_8 (callX_weak (L':=L9) (fun w hw=>by rw[hL9]; exact hw) (cIs (fun w' hw'=>eqSchema_walk w' w'.heap.size w'.heap.size (parseP t).l (parseP t).nt xa xb ya yb ua ub va vb (Nat.le_refl _) (Nat.le_refl _) (schP_own oa na hw' sa ra) (schP_own ob nb hw' sb rb)) ?_))
 simp (disch:=omega) only[push_cast,qE,h0,h5,h8,h11,h14,h17]
 refine lAg Shp.eq mc rfl rfl ?_
 simp (disch:=omega) only[push_cast,qE,h0,h5,h8,h11,h14,h17]
 refine lAg Shp.eq md rfl rfl ?_
 simp (disch:=omega) only[push_cast,qE,h0,h5,h8,h11,h14,h17]
 refine callV en_8 (cIs (fun w' hw'=>eqSchema_walk w' w'.heap.size w'.heap.size (parseP o).l (parseP o).nt xc xd yc yd uc ud vc vd (Nat.le_refl _) (Nat.le_refl _) (schP_own oc nc hw' sc rc) (schP_own od nd hw' sd rd)) ?_)
 simp (disch:=omega) only[push_cast,qE,h0,h5,h8,h11,h14,h17]
 refine lAg Shp.eq me rfl rfl ?_
 simp (disch:=omega) only[push_cast,qE,h0,h5,h8,h11,h14,h17]
 refine lAg Shp.eq mb rfl rfl ?_
 simp (disch:=omega) only[push_cast,qE,h0,h5,h8,h11,h14,h17]
 refine callV en_8 (cIs (fun w' hw'=>eqSchema_walk w' w'.heap.size w'.heap.size (parseP t).l (parseP t).nt xe xb ye yb ue ub ve vb (Nat.le_refl _) (Nat.le_refl _) (schP_own oe ne hw' se re) (schP_own ob nb hw' sb rb)) ?_)
 simp (disch:=omega) only[push_cast,qE,h0,h5,h8,h11,h14,h17]
 exact finIs g9 rfl
set_option maxHeartbeats 4000000
def IntsAt (w:World) (a:Option Addr) (l:List Int):Prop:=l=[]∨∃ b off,a=some ⟨b,off,none⟩∧∀ i n,l[i]?=some n→At w b (off+i) [i64 n]
structure EqII (w0:World) (l m:List Int) (a a':Option Addr) (c c':Nat) (i:Nat) (wb:World) (e:Env) (ds:List Deferred) (L:Own):Prop where
 hw:wb=w0
 hds:ds=[]
 o:L=[]
 il:i≤l.length
 n:∀ j:Nat,j < i→l[j]?=m[j]?
 h0:e 0=.slice a l.length c
 h1:e 1=.slice a' m.length c'
 h12:e 12=i64 l.length
 h13:e 13=i64 i
theorem eqInts_walk (w:World) (l m:List Int) (a a':Option Addr) (c c':Nat) (hl:IntsAt w a l) (hm:IntsAt w a' m) (hlc:l.length≤9223372036854775807) :
 Calls Tryz.prog 63 #[.slice a l.length c,.slice a' m.length c'] w (Rets w (Is (.bool (decide (l=m))))):=by
 refine enterT (args:=[.slice a l.length c,.slice a' m.length c']) Tryz.func63 rfl Tryz.ntmps63 (congrArg Array.toList Tryz.results63) (by kernel_rfl) (by simp) (Sy.refl w) ?_
 refine sp ?_
 rw[Vc]
 refine sp ?_
 refine cdD (fun hne=>?_) (fun heq=>?_)
 ·refine sp ?_
  exact finIs (by simp) (is_f (fun h=>hne (by rw[h])))
 have hlm:l.length=m.length:=by omega
 refine sp ?_
 repeat' (first|((first|((first|refine gT rfl ?_ ?_|refine gF rfl ?_ ?_|refine cdD ?_ ?_)<;>intro h)|((first|refine gbT rfl ?_ ?_|refine gbF rfl ?_ ?_|refine cdB ?_ ?_)<;>intro h<;>(try subst h))|refine lOa Shp.eq rfl ?_|refine lAa Shp.eq rfl rfl ?_|refine newI (fun b hb hn=>?_)|refine sXb Siz.eq rfl rfl ?_)<;>simp (disch:=omega) only[push_cast,qE]))
 rw[Vb]
 refine sp ?_
 refine loopT (G:=Nat) (EqII w l m a a' c c') (fun i=>l.length - i) 0 (by kernel_rfl) ⟨rfl,rfl,rfl,by omega,by omega,rfl,rfl,rfl,rfl⟩ ?_
 rintro i wb e ds L ⟨rfl,rfl,rfl,hil,hno,h0,h1,h12,h13⟩
 simp (disch:=omega) only[push_cast,qE,h0,h1,h12,h13]
 rw[Vc]
 simp (disch:=omega) only[push_cast,qE,h0,h1,h12,h13]
 refine cdD (fun hlt=>?_) (fun hge=>?_)
 ·obtain ⟨n,hn⟩:∃ n,l[i]?=some n:=⟨_,qH (by omega)⟩
  obtain ⟨n',hn'⟩:∃ n,m[i]?=some n:=⟨_,qH (by omega)⟩
  rcases hl with rfl|⟨b,off,rfl,hl⟩
  ·simp at hn
  rcases hm with rfl|⟨b',off',rfl,hm⟩
  ·simp at hn'
  simp (disch:=omega) only[push_cast,qE,h0,h1,h12,h13]
  rw[Vb]
  simp (disch:=omega) only[push_cast,qE,h0,h1,h12,h13]
  refine drawQT (by kernel_rfl) (by kernel_rfl) mixed (by kernel_rfl) ?_
  simp (disch:=omega) only[push_cast,qE,h0,h1,h12,h13]
  refine ldF sh_3 (by simpa using hl i n hn) (by simp) ?_
  simp (disch:=omega) only[push_cast,qE,h0,h1,h12,h13]
  refine ldF sh_3 (by simpa using hm i n' hn') (by simp) ?_
  simp (disch:=omega) only[push_cast,qE,h0,h1,h12,h13]
  rw[Vc]
  simp (disch:=omega) only[push_cast,qE,h0,h1,h12,h13]
  refine cdD (fun hd=>?_) (fun hd=>?_)
  ·simp (disch:=omega) only[push_cast,qE,h0,h1,h12,h13]
   exact finIs (by simp) (is_f (fun h=>hd (by rw[h,hn'] at hn; cases hn; rfl)))
  ·simp (disch:=omega) only[push_cast,qE,h0,h1,h12,h13]
   refine ⟨i+1,⟨rfl,rfl,rfl,by omega,fun j hj=>?_,h0,h1,h12,uu⟩,by omega⟩
   rcases Nat.lt_or_ge j i with h|h
   ·exact hno j h
   ·obtain rfl:j=i:=by omega
    rw[hn,hn',Decidable.not_not.1 hd]
 ·simp (disch:=omega) only[push_cast,qE,h0,h1,h12,h13]
  refine finIs (by simp) (is_t ?_)
  apply List.ext_getElem?
  intro j
  rcases Nat.lt_or_ge j l.length with h|h
  ·exact hno j (by omega)
  ·rw[List.getElem?_eq_none h,List.getElem?_eq_none (by omega)]
theorem eqFault_walk (w:World) (x z x' z':Int) (l m:List Int) (a a':Option Addr) (c c':Nat) (hl:IntsAt w a l) (hm:IntsAt w a' m) (hlc:l.length≤9223372036854775807) :
 Calls Tryz.prog 23 #[.agg #[i64 x,.slice a l.length c,i64 z],.agg #[i64 x',.slice a' m.length c',i64 z']] w (Rets w (Is (.bool (decide (x=x'∧z=z'∧l=m))))):=by
 refine enterT (args:=[.agg #[i64 x,.slice a l.length c,i64 z],.agg #[i64 x',.slice a' m.length c',i64 z']]) Tryz.func23 rfl Tryz.ntmps23 (congrArg Array.toList Tryz.results23) (by kernel_rfl) (by simp) (Sy.refl w) ?_
 refine sp ?_
 refine newI (fun b2 hb2 hn2=>?_)
 refine sp ?_
 refine newI (fun b3 hb3 hn3=>?_)
 have hL:∀ x y,∀ p∈[(b3,(x:Obj)),(b2,y)],w.heap.size≤p.1:=fun x y p hp=>by
  simp only[List.mem_cons,List.mem_nil_iff,or_false] at hp
  rcases hp with rfl|rfl<;>assumption
 have keep:∀ x y w' a l,Sy w [(b3,(x:Obj)),(b2,y)] w'→IntsAt w a l→IntsAt w' a l:=fun x y w' a l hw' h=>by
  rcases h with h|⟨b,off,h1,h2⟩
  ·exact .inl h
  ·exact .inr ⟨b,off,h1,fun i n hi=>(h2 i n hi).of_block (hw'.rest _ (h2 i n hi).lt (out_of (fun p hp=>Nat.lt_of_lt_of_le (h2 i n hi).lt (hL _ _ p hp))))⟩
 refine sp ?_
 repeat' (first|((first|((first|refine gT rfl ?_ ?_|refine gF rfl ?_ ?_|refine cdD ?_ ?_)<;>intro h)|((first|refine gbT rfl ?_ ?_|refine gbF rfl ?_ ?_|refine cdB ?_ ?_)<;>intro h<;>(try subst h))|refine lOa Shp.eq rfl ?_|refine lAa Shp.eq rfl rfl ?_|refine newI (fun b hb hn=>?_)|refine sXb Siz.eq rfl rfl ?_)<;>simp (disch:=omega) only[push_cast,qE])|(first|rw[Vc]|rw[Vb])<;>(try simp (disch:=omega) only[push_cast,qE]))
 ·refine callV en_63 (cIs (fun w' hw'=>eqInts_walk w' l m a a' c c' (keep _ _ w' a l hw' hl) (keep _ _ w' a' m hw' hm) hlc) ?_)
  refine sp ?_
  refine finIs (hL _ _) (is_d ?_)
  constructor
  ·exact fun hh=>⟨by assumption,by assumption,hh⟩
  ·exact fun hh=>hh.2.2
 all_goals (refine finIs (hL _ _) (is_f (fun hh=>?_)); first|exact absurd hh.1 (by assumption)|exact absurd hh.2.1 (by assumption))
def toInts (l:List Nat):List Int:=l.map fun (n:Nat)=>(n:Int)
theorem toInts_length (l:List Nat):(toInts l).length=l.length:=by simp[toInts]
theorem eqFault_same (w:World) (x z:Int) (l:List Nat) (a a':Option Addr) (c c':Nat) (hl:IntsAt w a (toInts l)) (hm:IntsAt w a' (toInts l)) (hlc:l.length≤9223372036854775807) :
 Calls Tryz.prog 23 #[.agg #[i64 x,.slice a l.length c,i64 z],.agg #[i64 x,.slice a' l.length c',i64 z]] w (Rets w (Is (.bool true))):=by
 have h:=eqFault_walk w x z x z (toInts l) (toInts l) a a' c c' hl hm (by rw[toInts_length]; exact hlc)
 rw[toInts_length] at h
 simpa using h
theorem intsAt_row {w wb:World} {L M:Own} {pa:Option Addr} {pc:Nat} {l:List Nat} (hw:Sy wb L w) (hM:∀ p∈M,p∈L) (h:RowIn M 3 (.slice pa l.length pc) l.length (ints l)):IntsAt w pa (toInts l):=by
 obtain ⟨_,⟨h1,h2⟩|⟨b,cap,cs,h1,h2,h3,h4,h5,h6⟩⟩:=h
 ·exact .inl (List.eq_nil_of_length_eq_zero (by rw[toInts_length]; exact h2))
 ·injection h1 with he1 he2 he3
  subst he1; subst he3
  refine .inr ⟨b,0,rfl,fun i n hi=>At.of_own hw (hM _ h2) ?_⟩
  have h7:(ints l)[i]?=some (i64 n):=by
   simp only[toInts,List.getElem?_map] at hi
   simp only[ints,List.getElem?_map]
   cases hx:l[i]? with
   | none=>rw[hx] at hi; cases hi
   | some k=>rw[hx] at hi; cases hi; rfl
  rw[← h6,List.getElem?_take] at h7
  split at h7
  ·rename_i hlt
   simp only[List.length_singleton]
   rw[Nat.zero_add,List.take_one,List.head?_drop,h7]
   rfl
  ·cases h7
theorem intsAt_tail {w wb:World} {L M:Own} {pa:Option Addr} {pc:Nat} {l:List Nat} (hw:Sy wb L w) (hM:∀ p∈M,p∈L)
 (h:pa=none∧pc=0∧l=[]∨∃ b cap cs,pa=some ⟨b,if cap=1 then 0 else 1,none⟩∧pc=cap - 1∧(b,.cells cs 3 (0,0))∈M∧RowIn [(b,.cells cs 3 (0,0))] 3 (.slice (some ⟨b,0,none⟩) l.length cap) l.length (ints l)):IntsAt w pa (toInts l.tail):=by
 rcases h with ⟨_,_,rfl⟩|⟨b,cap,cs,rfl,_,hm,hrow⟩
 ·exact .inl rfl
 ·rcases Nat.lt_or_ge 1 l.length with h1|h1
  ·have hcap:¬ cap=1:=by
    obtain ⟨_,⟨h2,_⟩|⟨b',cap',cs',h2,_,h3,_⟩⟩:=hrow
    ·cases h2
    ·injection h2 with _ _ e; omega
   rw[if_neg hcap]
   rcases intsAt_row (M:=[(b,.cells cs 3 (0,0))]) hw (fun p hp=>by rw[List.mem_singleton.1 hp]; exact hM _ hm) hrow with h|⟨b',off,he,h⟩
   ·have:=congrArg List.length h
    rw[toInts_length] at this
    simp only[List.length_nil] at this
    omega
   ·cases he
    refine .inr ⟨b,1,rfl,fun i n hi=>?_⟩
    have h4:=h (i+1) n (by
     simp only[toInts,List.getElem?_map,List.getElem?_tail] at hi ⊢
     exact hi)
    rw[show 1+i=0+(i+1) by omega]
    exact h4
  ·refine .inl (List.eq_nil_of_length_eq_zero ?_)
   rw[toInts_length,List.length_tail]; omega
set_option maxHeartbeats 1600000
def RowP (wb:World) (e:TypeId) (size:Nat) (R:Own) (v:Value) (n:Nat):Prop:=(v=.slice none 0 0∧n=0∧R=[]) ∨
 ∃ (b off c:Nat) (cs:List Value),v=.slice (some ⟨b,off,none⟩) n c∧R=[(b,Obj.cells cs.toArray e (0,0))]∧wb.heap.size≤b∧n≤c∧c≤maxLen∧(c=0∨off+c * size≤cs.length)
theorem RowP.new {wb:World} {e:TypeId} {size n:Nat} {R:Own} {v:Value} (h:RowP wb e size R v n):∀ p∈R,wb.heap.size≤p.1:=by
 rcases h with ⟨_,_,rfl⟩|⟨b,off,c,cs,_,rfl,h1,_⟩
 ·simp
 ·intro p hp
  rw[List.mem_singleton.1 hp]; exact h1
theorem RowP.is_slice {wb:World} {e:TypeId} {size n:Nat} {R:Own} {v:Value} (h:RowP wb e size R v n):∃ a c,v=.slice a n c:=by
 rcases h with ⟨rfl,rfl,_⟩|⟨b,off,c,cs,rfl,_⟩
 ·exact ⟨_,_,rfl⟩
 ·exact ⟨_,_,rfl⟩
theorem appendP {P:Program} {wb:World} {R M:Own} {t ty e:TypeId} {z:Value} {size bytes n m c:Nat} {v:Value} {news:List Value} {a:Addr} {K:Value→World→Own→Prop}
 (ht:P.underlying t=some (.slice e)) (hi:(P.info? e).map (fun i=>(i.zero,i.size,i.bytes))=some (some z,size,bytes)) (hzs:z.cells.size=size) (hm:0 < m)
 (hrow:RowP wb e size R v n) (hl:news.length=m * size) (hr:CanRead wb (R++M) a news) (h1:∀ u∈news,u.oneCell'=true) (h63:n+m≤maxLen) (hbytes:(n+m) * bytes≤140737488355328)
 (hK:∀ v' R',RowP wb e size R' v' (n+m)→K v' wb (R'++M)):ValX P (Builtin.append_ #[t,t] ty #[v,.slice (some a) m c]) wb (R++M) (tag K):=by
 rcases hrow with ⟨rfl,rfl,rfl⟩|⟨b,off,c0,cs,rfl,rfl,hb,hnc,hcm,hcl⟩
 ·refine appendI ht hi hzs (xs:=[]) (M:=M) ⟨by simp,.inl ⟨rfl,rfl,rfl⟩⟩ hl hr h1 h63 hbytes (fun v' L' h _=>?_)
  obtain ⟨_,⟨_,q2,_⟩|⟨b,cap,cs,q1,q2,q3,q4,q5,q6,_⟩⟩:=h
  ·omega
  ·rw[q2]
   exact hK v' [_] (.inr ⟨b,0,cap,cs,q1,rfl,q3,q4,q5,.inr (by rw[q6]; omega)⟩)
 ·obtain ⟨inf,hinf,i1,i2,i3⟩:∃ inf,P.info? e=some inf∧inf.zero=some z∧inf.size=size∧inf.bytes=bytes:=by
   cases hh:P.info? e with
   | none=>rw[hh] at hi; cases hi
   | some inf=>rw[hh] at hi; simp at hi; exact ⟨inf,rfl,hi.1,hi.2.1,hi.2.2⟩
  subst i2; subst i3
  have h63':((n+m:Nat):Int)≤9223372036854775807:=by simp only[maxLen] at h63; omega
  intro w hw
  have hnews:=hr w hw
  have hbo:=hw.own b _ (List.mem_cons_self ..)
  have hn1:n * inf.size≤c0 * inf.size:=Nat.mul_le_mul_right _ hnc
  have hxl:((cs.drop off).take (n * inf.size)).length=n * inf.size:=by
   rw[List.length_take,List.length_drop]
   rcases hcl with hc|hc
   ·have:n=0:=by omega
    subst this; simp
   ·omega
  have hadd:∀ j,(⟨b,off,none⟩:Addr).add j=⟨b,off+j,none⟩:=fun j=>by unfold Addr.add; split<;>simp_all
  have hcells:∀ j u,((cs.drop off).take (n * inf.size))[j]?=some u→w.cell? ((⟨b,off,none⟩:Addr).add j)=some u:=by
   intro j u hu
   rw[hadd]
   simp only[World.cell?,hbo]
   rw[List.getElem?_take] at hu
   split at hu
   ·rw[List.getElem?_drop] at hu; simpa using hu
   ·cases hu
  rcases Nat.lt_or_ge c0 (n+m) with hg|hroom
  ·have hrun:=run_append_grow (P:=P) w t ty e inf z ht hinf i1 ⟨b,off,none⟩ n c0 _ hxl hcells a m c news hl hnews hg h63' (growslice_fits hg hbytes)
   have hge:=grownCap_ge w (n+m) c0 e
   have hle:=grownCap_le_maxLen w (n+m) c0 e h63
   refine ⟨_,_,wb,[(w.heap.size,.cells (((cs.drop off).take (n * inf.size)).toArray++news.toArray++Builtin.zeroCells z.cells (grownCap w (n+m) c0 e - (n+m))) e)]++M,hrun,?_,hK _ _ (.inr ⟨w.heap.size,0,grownCap w (n+m) c0 e,(cs.drop off).take (n * inf.size)++news++(Builtin.zeroCells z.cells (grownCap w (n+m) c0 e - (n+m))).toList,rfl,?_,hw.size,hge,hle,.inr ?_⟩)⟩
   ·exact (hw.drewn.new (.cells (((cs.drop off).take (n * inf.size)).toArray++news.toArray++Builtin.zeroCells z.cells (grownCap w (n+m) c0 e - (n+m))) e)).lose (i:=1) (b:=b) (o:=.cells cs.toArray e (0,0)) (by simp) hb
   ·simp
   ·rw[qA,qA,hxl,hl,Array.length_toList,zeroCells_length,hzs,← Nat.add_mul,← Nat.add_mul,Nat.add_sub_cancel' hge]
    omega
  ·have hfit:off+n * inf.size+news.length≤cs.length:=by
    have h2:(n+m) * inf.size≤c0 * inf.size:=Nat.mul_le_mul_right _ hroom
    rw[Nat.add_mul] at h2
    rcases hcl with hc|hc
    ·omega
    ·omega
   have hfc:=run_firstCells_some (P:=P) w inf.size m a m c news hl hnews
   have hst:=storeCells_run (P:=P) news w b (off+n * inf.size) 0 cs e h1 hbo (by omega)
   refine ⟨.slice (some ⟨b,off,none⟩) (n+m) c0,_,wb,[(b,.cells (splice cs (off+n * inf.size) news).toArray e (0,0))]++M,?_,hw.set (i:=0) (b:=b) (o:=.cells cs.toArray e (0,0)) (.cells (splice cs (off+n * inf.size) news).toArray e (0,0)) (by simp),hK _ _ (.inr ⟨b,off,c0,splice cs (off+n * inf.size) news,rfl,rfl,hb,hroom,hcm,?_⟩)⟩
   ·rw[Nat.add_zero] at hst
    have hadd2:=hadd (n * inf.size)
    simp[Builtin.append_,run_underlying ht,sizeOf,typeInfo,hinf,Builtin.lenOf,hroom,hfc,hadd2,hst]
   ·rw[splice_length hfit]; exact hcl
theorem RowP.tail {wb:World} {M:Own} {pa:Option Addr} {pc:Nat} {l:List Nat} (hM:∀ p∈M,wb.heap.size≤p.1)
 (h:pa=none∧pc=0∧l=[]∨∃ b cap cs,pa=some ⟨b,if cap=1 then 0 else 1,none⟩∧pc=cap - 1∧(b,.cells cs 3 (0,0))∈M∧RowIn [(b,.cells cs 3 (0,0))] 3 (.slice (some ⟨b,0,none⟩) l.length cap) l.length (ints l)) :
 ∃ R M',M.Perm (R++M')∧RowP wb 3 1 R (.slice pa l.tail.length pc) l.tail.length:=by
 rcases h with ⟨rfl,rfl,rfl⟩|⟨b,cap,cs,rfl,rfl,hm,hrow⟩
 ·exact ⟨[],M,.refl _,.inl ⟨rfl,rfl,rfl⟩⟩
 ·obtain ⟨s,t,rfl⟩:=List.append_of_mem hm
  refine ⟨[(b,.cells cs 3 (0,0))],s++t,List.perm_middle,.inr ⟨b,_,_,cs.toList,rfl,by simp,hM _ hm,?_⟩⟩
  obtain ⟨_,⟨q1,_⟩|⟨b',cap',cs',q1,q2,q3,q4,q5,q6⟩⟩:=hrow
  ·cases q1
  ·injection q1 with r1 r2 r3
   subst r3
   rw[List.mem_singleton] at q2
   injection q2 with r4 r5
   injection r5 with r6 r7
   have r8:cs.size=cap:=by rw[← r6]; simpa using q5
   refine ⟨by rw[List.length_tail]; omega,by omega,?_⟩
   rw[Array.length_toList,r8]
   split<;>omega
theorem RowP.whole {wb:World} {M:Own} {pa:Option Addr} {n pc:Nat} {xs:List Value} (hM:∀ p∈M,wb.heap.size≤p.1) (h:RowIn M 3 (.slice pa n pc) n xs):∃ R M',M.Perm (R++M')∧RowP wb 3 1 R (.slice pa n pc) n:=by
 obtain ⟨_,⟨q1,q2⟩|⟨b,cap,cs,q1,q2,q3,q4,q5,q6⟩⟩:=h
 ·exact ⟨[],M,.refl _,.inl ⟨q1,q2,rfl⟩⟩
 ·obtain ⟨s,t,rfl⟩:=List.append_of_mem q2
  exact ⟨[(b,.cells cs.toArray 3 (0,0))],s++t,List.perm_middle,.inr ⟨b,0,cap,cs,q1,rfl,hM _ q2,q3,q4,.inr (by omega)⟩⟩
end Go.Proofs.YtdmdgkpjjpijdaaGreatDoor
