/- YtilejcofleeeiaaGreatDoor: walks, part 231: a parser: texts. -/
import Derived.Test.YtilejcofleeeiaaGreatDoorW228
namespace Go.Proofs.YtilejcofleeeiaaGreatDoor
open Go Go.K
open Nat renaming reduceEqDiff → qE
open List renaming length_append → qA
set_option maxRecDepth 100000
set_option linter.unusedVariables false
set_option linter.unusedSimpArgs false
set_option maxHeartbeats 4000000
structure RoI (w0:World) (pb:Nat) (s:List UInt8) (g:FuncId) (q:Nat) (f:UInt8→Bool) (i:Nat) (wb:World) (e:Env) (ds:List Deferred) (L:Own):Prop where
 hw:wb=w0
 hds:ds=[]
 hi:i≤s.length
 hq:runP f s i=q
 h0:e 0=pPs pb
 h1:e 1=.func (.func g) #[] #[]
 h5:e 5=i64 i
 o:L=[]
theorem row_walk (w:World) (pb:Nat) (s:List UInt8) (p:Nat) (g:FuncId) (f:UInt8→Bool) (hen:entersB Tryz.prog g=true) (hg:∀ (w':World) (c:UInt8),Calls Tryz.prog g #[.int .u8 c.toNat] w' (Rets w' (Is (.bool (f c))))) (hs:s.length≤65536) (hp:p≤s.length) (hat:At w pb 0 [str s,i64 p]) :
 Calls Tryz.prog 66 #[pPs pb,.func (.func g) #[] #[]] w (Rets w (Is (str (rowP f s p)))):=by
 refine enterT (args:=[pPs pb,.func (.func g) #[] #[]]) Tryz.func66 rfl Tryz.ntmps66 (congrArg Array.toList Tryz.results66) (by kernel_rfl) (by simp) (Sy.refl w) ?_
 have a1:At w pb 1 [i64 p]:=hat.sub 1 [i64 p] rfl
 have a0:At w pb 0 [str s]:=hat.sub 0 [str s] rfl
 refine sp ?_
 refine ldF Shp.eq a1 (by simp) ?_
 refine sp ?_
 rw[Vb]
 refine sp ?_
 refine loopW (G:=Nat) (RoI w pb s g (runP f s p) f) (fun i=>s.length - i) p _ (fun w hw=>hw) (by kernel_rfl) ⟨rfl,rfl,hp,rfl,rfl,rfl,rfl,rfl⟩ ?_
 rintro i wb e ds L ⟨rfl,rfl,hi,hq,h0,h1,h5,rfl⟩
 have fin:runP f s i=i→str (List.take i s |>.drop p)=str (rowP f s p):=fun h=>by rw[rowP_eq,← hq,h]
 simp (disch:=omega) only[push_cast,qE,h0,h1,h5]
 refine ldF Shp.eq a0 (by simp) ?_
 simp (disch:=omega) only[push_cast,qE,h0,h1,h5]
 refine gT rfl (fun hlt=>?_) (fun hge=>?_)
 ·simp (disch:=omega) only[push_cast,qE,h0,h1,h5]
  refine ldF Shp.eq a0 (by simp) ?_
  simp (disch:=omega) only[push_cast,qE,h0,h1,h5]
  refine callV hen (cIs (fun w' _=>hg w' (s.getD i 0)) ?_)
  have hat':=getD_at (s:=s) (i:=i) (by omega)
  simp (disch:=omega) only[push_cast,qE,h0,h1,h5]
  rw[Vc]
  simp (disch:=omega) only[push_cast,qE,h0,h1,h5]
  refine cdB (fun hb=>?_) (fun hb=>?_)
  ·simp (disch:=omega) only[push_cast,qE,h0,h1,h5]
   rw[Vb]
   simp (disch:=omega) only[push_cast,qE,h0,h1,h5]
   exact ⟨i+1,_,fun w hw=>hw,⟨rfl,rfl,by omega,by rw[← hq]; exact (runP_step hat' hb).symm,h0,h1,i64_eq (by omega),rfl⟩,by omega⟩
  ·have hi2:runP f s i=i:=runP_stop hat' hb
   simp (disch:=omega) only[push_cast,qE,h0,h1,h5]
   refine drawQT (by kernel_rfl) (by kernel_rfl) mixed (by kernel_rfl) ?_
   simp (disch:=omega) only[push_cast,qE,h0,h1,h5]
   refine ldF Shp.eq a0 (by simp) ?_
   simp (disch:=omega) only[push_cast,qE,h0,h1,h5]
   refine ldF Shp.eq a1 (by simp) ?_
   have hqi:p≤i:=by have:=runP_ge f s p; omega
   simp (disch:=omega) only[push_cast,qE,h0,h1,h5,Int.toNat_natCast]
   exact finIs (by simp) (fin hi2)
 ·have hi2:runP f s i=i:=runP_end (by omega)
  simp (disch:=omega) only[push_cast,qE,h0,h1,h5]
  rw[Vc]
  simp (disch:=omega) only[push_cast,qE,h0,h1,h5]
  refine drawQT (by kernel_rfl) (by kernel_rfl) mixed (by kernel_rfl) ?_
  simp (disch:=omega) only[push_cast,qE,h0,h1,h5]
  refine ldF Shp.eq a0 (by simp) ?_
  simp (disch:=omega) only[push_cast,qE,h0,h1,h5]
  refine ldF Shp.eq a1 (by simp) ?_
  have hqi:p≤i:=by have:=runP_ge f s p; omega
  simp (disch:=omega) only[push_cast,qE,h0,h1,h5,Int.toNat_natCast]
  exact finIs (by simp) (fin hi2)
theorem named_walk2 (w:World) (pb:Nat) (s:List UInt8) (p q:Nat) (hs:s.length≤65536) (hat:At w pb 0 [str s,i64 p]) :
 Calls Tryz.prog 68 #[pPs pb,i64 q] w (Rets w (Is (.bool (opensB s q)))):=by
 refine enterT (args:=[pPs pb,i64 q]) Tryz.func68 rfl Tryz.ntmps68 (congrArg Array.toList Tryz.results68) (by kernel_rfl) (by simp) (Sy.refl w) ?_
 have a0:At w pb 0 [str s]:=hat.sub 0 [str s] rfl
 refine sp ?_
 refine ldF Shp.eq a0 (by simp) ?_
 refine sp ?_
 refine gT rfl (fun hlt=>?_) (fun hge=>?_)
 ·have hat':=getD_at (s:=s) (i:=q) (by omega)
  have ho:opensB s q=(decide ((s.getD q 0).toNat=40) || nameB (s.getD q 0)):=by unfold opensB; rw[hat']
  rw[ho]
  refine sp ?_
  refine ldF Shp.eq a0 (by simp) ?_
  refine sp ?_
  refine gF rfl (fun h4=>?_) (fun h4=>?_)
  ·refine sp ?_
   refine ldF Shp.eq a0 (by simp) ?_
   refine sp ?_
   refine callV en_100 (cIs (fun w' _=>letter_walk2 w' (s.getD q 0)) ?_)
   refine sp ?_
   exact finIs (by simp) (by rw[decide_eq_false (by omega)]; simp)
  ·refine sp ?_
   exact finIs (by simp) (by rw[decide_eq_true (by omega)]; simp)
 ·refine sp ?_
  refine finIs (by simp) ?_
  unfold opensB
  rw[List.getElem?_eq_none (by omega)]
theorem pdigit_walk (wb w:World) (pb:Nat) (s:List UInt8) (p:Nat) (M:Own) (hs:s.length≤65536) (hp:p≤s.length) (hpb:wb.heap.size≤pb) (hw:Sy wb (oPs pb s p::M) w) :
 Calls Tryz.prog 106 #[pPs pb] w (PVR wb pb s M (digAt s p) fun d v K=>v=.int .u8 (d:Nat)∧d < 16∧K=[]):=by
 refine enterB (args:=[pPs pb]) Tryz.func106 rfl Tryz.ntmps106 (congrArg Array.toList Tryz.results106) (by kernel_rfl) (by simp) hw ?_
 refine sp ?_
 refine callV en_102 (cIs (fun w' hw'=>byte_walk w' pb s p (At.of_own hw' mem0 rfl)) ?_)
 refine sp ?_
 refine callV en_127 (cIs (fun w' _=>digit_fn w' (s.getD p 0)) ?_)
 refine sp ?_
 refine drawQT (by kernel_rfl) (by kernel_rfl) mixed (by kernel_rfl) ?_
 refine sp ?_
 cases hd:digV (s.getD p 0) with
 | none =>
  simp (disch:=omega) only[push_cast,qE,Option.isSome_none,Bool.not_false]
  rw[Vc]
  refine sp ?_
  refine lOn Shp.eq mem0 rfl ?_
  refine sp ?_
  refine callV en_33 (callX_fail p ?_)
  refine sp ?_
  refine fun w' hw'=>PVR.fall [oPs pb s p] ?_ (fun b hb=>by rw[List.mem_singleton.1 hb]; exact hpb) hw'
  unfold digAt
  rcases Nat.lt_or_ge p s.length with h|h
  ·rw[getD_at h,Option.bind_some,hd]
  ·rw[List.getElem?_eq_none h]; rfl
 | some d =>
  have hlt:p < s.length:=by
   rcases Nat.lt_or_ge p s.length with h|h
   ·exact h
   ·rw[List.getD_eq_getElem?_getD,List.getElem?_eq_none h] at hd
    exact absurd hd (by rw[Option.getD_none,show digV 0=none from rfl]; simp)
  simp (disch:=omega) only[push_cast,qE,Option.isSome_some,Bool.not_true]
  refine lOn Shp.eq mem0 rfl ?_
  refine sp ?_
  refine lOn Shp.eq mem0 rfl ?_
  refine sp ?_
  rw[Vc]
  refine sp ?_
  refine cdD (fun h=>absurd h (by omega)) (fun _=>?_)
  refine sp ?_
  refine lOn Shp.eq mem0 rfl ?_
  refine sp ?_
  refine sXa 0 rfl Siz.eq rfl rfl ?_
  refine sp ?_
  refine fun w' hw'=>PVR.leaf (.int .u8 d) [] (x:=d) (q:=p+1) ?_ (by omega) ⟨rfl,digV_lt hd,rfl⟩ (by simp) (by rw[oPs,Int.natCast_add]; simpa [splice] using hw')
  unfold digAt
  rw[getD_at hlt,Option.bind_some,hd]
structure EsI (w0:World) (pb:Nat) (s:List UInt8) (p:Nat) (M:Own) (n:Nat) (wb:World) (e:Env) (ds:List Deferred) (L:Own):Prop where
 hw:wb=w0
 hds:ds=[]
 hn:n=2∨n=4∨n=6
 no:∀ c:UInt8,escP c≠[]→(escP c).length < n→¬ escP c <+: s.drop p
 h0:e 0=pPs pb
 h3:e 3=i64 n
 o:L=oPs pb s p::M
structure EsJ (w0:World) (pb:Nat) (s:List UInt8) (p:Nat) (M:Own) (n:Nat) (k:Nat) (wb:World) (e:Env) (ds:List Deferred) (L:Own):Prop where
 hw:wb=w0
 hds:ds=[]
 hk:k≤128
 no:∀ c:UInt8,c.toNat < k→escP c≠(s.drop p).take n
 h0:e 0=pPs pb
 h3:e 3=i64 n
 h4:e 4=str ((s.drop p).take n)
 h37:e 37=i64 k
 o:L=oPs pb s p::M
def escV (s:List UInt8) (p:Nat):PV UInt8:=match escR (s.drop p) with
 | none=>.no 8 p
 | some (c,n)=>.ok c (p+n)
theorem escV_no {s:List UInt8} {p:Nat} (h:∀ c:UInt8,escP c≠[]→¬ escP c <+: s.drop p):escV s p=.no 8 p:=by
 unfold escV
 cases hr:escR (s.drop p) with
 | none=>rfl
 | some x =>
  obtain ⟨c,n⟩:=x
  obtain ⟨h1,h2,_,_⟩:=escR_some hr
  exact absurd h2 (h c h1)
theorem escV_yes {s:List UInt8} {p:Nat} {c:UInt8} {n:Nat} (h0:0 < n) (hn:n≤(s.drop p).length) (h:escP c=(s.drop p).take n):escV s p=.ok c (p+n):=by
 have hl:(escP c).length=n:=by rw[h,List.length_take]; omega
 have hne:escP c≠[]:=fun e=>by rw[e] at hl; simp at hl; omega
 unfold escV
 rw[escR_yes hne (by rw[h]; exact List.take_prefix _ _),hl]
theorem byte_of {k:Nat} (h:k < 128):∃ c:UInt8,c.toNat=k:=⟨UInt8.ofNat k,byte_low k h⟩
theorem escaped_at (w:World) {k:Nat} {c:UInt8} (h:(k:Int)=(c.toNat:Int)):Calls Tryz.prog 88 #[.int .u8 k] w (Rets w (Is (str (escP c)))):=by
 rw[h]
 exact escaped_walk w c
theorem escape_walk (wb w:World) (pb:Nat) (s:List UInt8) (p:Nat) (M:Own) (hs:s.length≤65536) (hp:p≤s.length) (hpb:wb.heap.size≤pb) (hw:Sy wb (oPs pb s p::M) w) :
 Calls Tryz.prog 103 #[pPs pb] w (PVR wb pb s M (escV s p) fun c v K=>v=.int .u8 c.toNat∧K=[]):=by
 refine enterB (args:=[pPs pb]) Tryz.func103 rfl Tryz.ntmps103 (congrArg Array.toList Tryz.results103) (by kernel_rfl) (by simp) hw ?_
 refine sp ?_
 have hld:(s.drop p).length=s.length - p:=List.length_drop
 have no:∀ (h:∀ c:UInt8,escP c≠[]→¬ escP c <+: s.drop p) (w':World),Sy wb (oPs pb s p::M) w'→PVR wb pb s M (escV s p) (fun c v K=>v=.int .u8 c.toNat∧K=[]) (.panicked [wrongE 8 p]) w':=fun h w' hw' =>
  PVR.fall [oPs pb s p] (escV_no h) (fun b hb=>by rw[List.mem_singleton.1 hb]; exact hpb) hw'
 rw[Vb]
 refine sp ?_
 refine loopW (G:=Nat) (EsI wb pb s p M) (fun n=>6 - n) 2 _ (fun w hw=>hw) (by kernel_rfl) ⟨rfl,rfl,.inl rfl,fun c h1 h2=>by rcases esc_two h1 with h|h<;>omega,rfl,rfl,rfl⟩ ?_
 rintro n wb e ds L ⟨rfl,rfl,hn,hno,h0,h3,rfl⟩
 simp (disch:=omega) only[push_cast,qE,h0,h3]
 rw[Vc]
 simp (disch:=omega) only[push_cast,qE,h0,h3]
 refine cdD (fun hle=>?_) (fun hgt=>?_)
 rotate_left
 ·simp (disch:=omega) only[push_cast,qE,h0,h3]
  refine lOn Shp.eq mem0 rfl ?_
  refine sp ?_
  refine callV en_33 (callX_fail p ?_)
  refine sp ?_
  exact no fun c h1 h2=>hno c h1 (by rcases esc_two h1 with h|h<;>omega) h2
 simp (disch:=omega) only[push_cast,qE,h0,h3]
 rw[Vb]
 simp (disch:=omega) only[push_cast,qE,h0,h3]
 refine drawQT (by kernel_rfl) (by kernel_rfl) mixed (by kernel_rfl) ?_
 simp (disch:=omega) only[push_cast,qE,h0,h3]
 refine lOn Shp.eq mem0 rfl ?_
 simp (disch:=omega) only[push_cast,qE,h0,h3]
 refine lOn Shp.eq mem0 rfl ?_
 simp (disch:=omega) only[push_cast,qE,h0,h3]
 rw[Vc]
 simp (disch:=omega) only[push_cast,qE,h0,h3]
 refine cdD (fun hsh=>?_) (fun hen=>?_)
 ·simp (disch:=omega) only[push_cast,qE,h0,h3]
  refine lOn Shp.eq mem0 rfl ?_
  refine sp ?_
  refine callV en_33 (callX_fail p ?_)
  refine sp ?_
  refine no fun c h1 h2=>?_
  rcases Nat.lt_or_ge (escP c).length n with h|h
  ·exact hno c h1 h h2
  ·have:=h2.length_le
   omega
 simp (disch:=omega) only[push_cast,qE,h0,h3]
 refine drawQT (by kernel_rfl) (by kernel_rfl) mixed (by kernel_rfl) ?_
 simp (disch:=omega) only[push_cast,qE,h0,h3]
 refine lOn Shp.eq mem0 rfl ?_
 simp (disch:=omega) only[push_cast,qE,h0,h3]
 refine lOn Shp.eq mem0 rfl ?_
 simp (disch:=omega) only[push_cast,qE,h0,h3]
 refine lOn Shp.eq mem0 rfl ?_
 simp (disch:=omega) only[push_cast,qE,h0,h3,Int.toNat_natCast]
 have hsl:List.drop p (List.take ((p:Int)+n).toNat s)=(s.drop p).take n:=by rw[show ((p:Int)+n).toNat=p+n by omega,List.drop_take]; congr 1; omega
 rw[Vb]
 simp (disch:=omega) only[push_cast,qE,h0,h3]
 refine loopW (G:=Nat) (EsJ wb pb s p M n) (fun k=>128 - k) 0 _ (fun w hw=>hw) (by kernel_rfl) ⟨rfl,rfl,by omega,fun c h=>by omega,h0,h3,congrArg str hsl,rfl,rfl⟩ ?_
 clear hw h0 h3 e hsl
 rintro k wb e ds L ⟨rfl,rfl,hk,hno2,h0,h3,h4,h37,rfl⟩
 simp (disch:=omega) only[push_cast,qE,h0,h3,h4,h37]
 rw[Vc]
 simp (disch:=omega) only[push_cast,qE,h0,h3,h4,h37]
 refine cdD (fun hlt=>?_) (fun hge=>?_)
 ·simp (disch:=omega) only[push_cast,qE,h0,h3,h4,h37]
  rw[Vb]
  simp (disch:=omega) only[push_cast,qE,h0,h3,h4,h37]
  have hk8:k < 128:=by omega
  refine Exists.elim (byte_of hk8) fun c hc=>?_
  have hci:(k:Int)=(c.toNat:Int):=congrArg (fun n:Nat=>(n:Int)) hc.symm
  refine callV en_88 (cIs (fun w' _=>escaped_at w' hci) ?_)
  simp (disch:=omega) only[push_cast,qE,h0,h3,h4,h37]
  rw[Vc]
  simp (disch:=omega) only[push_cast,qE,h0,h3,h4,h37]
  refine cdD (fun he=>?_) (fun hne=>?_)
  ·simp (disch:=omega) only[push_cast,qE,h0,h3,h4,h37]
   refine lOn Shp.eq mem0 rfl ?_
   simp (disch:=omega) only[push_cast,qE,h0,h3,h4,h37]
   refine sXa 0 rfl Siz.eq rfl rfl ?_
   simp (disch:=omega) only[push_cast,qE,h0,h3,h4,h37]
   refine fun w' hw'=>PVR.leaf _ [] (x:=c) (q:=p+n) (escV_yes (by omega) (by omega) he) (by omega) ⟨?_,rfl⟩ (by simp) (by rw[oPs,Int.natCast_add]; simpa [splice] using hw')
   rw[hci]
  ·simp (disch:=omega) only[push_cast,qE,h0,h3,h4,h37]
   refine ⟨k+1,_,fun w hw=>hw,⟨rfl,rfl,by omega,fun c' h'=>?_,h0,h3,h4,i64_eq (by omega),rfl⟩,by omega⟩
   rcases Nat.lt_or_ge c'.toNat k with h|h
   ·exact hno2 c' h
   ·rw[show c'=c from UInt8.toNat_inj.1 (by omega)]
    exact hne
 ·simp (disch:=omega) only[push_cast,qE,h0,h3,h4,h37]
  refine ⟨n+2,_,fun w hw=>hw,⟨rfl,rfl,by omega,fun c h1 h2 h3=>?_,h0,i64_eq (by omega),rfl⟩,by omega⟩
  rcases Nat.lt_or_ge (escP c).length n with h|h
  ·exact hno c h1 h h3
  ·have hl:(escP c).length=n:=by rcases esc_two h1 with h5|h5<;>omega
   refine hno2 c (by have:=esc_low h1; omega) ?_
   rw[← hl]
   exact (List.prefix_iff_eq_take.1 h3)
theorem BlO.out {wb:World} {T:TypeId} {b:Nat} {bs:List UInt8} {L M:Own} (A:Own) (h:BlO wb T b bs L (A++M)):∃ L',BlO wb T b bs L' M∧(∀ w,Sy wb L w→Sy wb (A++L') w):=by
 obtain ⟨p,v,hp,⟨h1,⟨rfl,h2,rfl⟩|⟨g,cap,cs,rfl,rfl,h3⟩⟩,h0,hb⟩:=h
 ·exact ⟨_,⟨p,_,hp,⟨h1,.inl ⟨rfl,h2,rfl⟩⟩,h0,hb⟩,fun w hw=>hw.perm List.perm_middle.symm⟩
 ·exact ⟨_,⟨p,_,hp,⟨h1,.inr ⟨g,cap,cs,rfl,rfl,h3⟩⟩,h0,hb⟩,fun w hw=>hw.perm ((List.perm_middle (l₁:=A)).symm.cons _ |>.trans List.perm_middle.symm)⟩
abbrev BlR (wb:World) (T:TypeId) (b:Nat) (bs:List UInt8) (R:Own):Prop:=BlO wb T b bs R []
theorem BlR.new' {wb:World} {T:TypeId} {b:Nat} {bs:List UInt8} {R:Own} (h:BlR wb T b bs R):∀ p∈R,wb.heap.size≤p.1:=h.new (by simp)
theorem write_fr (wb w:World) (T:TypeId) (hT:isBl T) (b:Nat) (bs s:List UInt8) (R A:Own) (hB:BlR wb T b bs R) (hs:s≠[]) (hlen:bs.length+s.length≤140737488355328) (hw:Sy wb (A++R) w) :
 Calls Tryz.prog 46 #[selfP b,str s] w fun e w'=>∃ v L',e=.returned v∧Sy wb L' w'∧(v=.tuple #[i64 s.length,.nilIface]∧∃ R',L'=A++R'∧BlR wb T b (bs++s) R'):=by
 obtain ⟨L1,h1,h2⟩:=hB.over A
 refine (write_walk wb w T hT b bs s L1 (A++[]) h1 hs hlen (h2 w hw)).mono ?_
 rintro e w' ⟨v,L',he,hs',hv,hB'⟩
 obtain ⟨R',q1,q2⟩:=hB'.out A
 exact ⟨v,_,he,q2 w' hs',hv,R',rfl,q1⟩
theorem writeByte_fr (wb w:World) (T:TypeId) (hT:isBl T) (b:Nat) (bs:List UInt8) (c:UInt8) (R A:Own) (hB:BlR wb T b bs R) (hlen:bs.length+1≤140737488355328) (hw:Sy wb (A++R) w) :
 Calls Tryz.prog 52 #[selfP b,.int .u8 c.toNat] w fun e w'=>∃ v L',e=.returned v∧Sy wb L' w'∧(v=.nilIface∧∃ R',L'=A++R'∧BlR wb T b (bs++[c]) R'):=by
 obtain ⟨L1,h1,h2⟩:=hB.over A
 refine (writeByte_walk wb w T hT b bs c L1 (A++[]) h1 hlen (h2 w hw)).mono ?_
 rintro e w' ⟨v,L',he,hs',hv,hB'⟩
 obtain ⟨R',q1,q2⟩:=hB'.out A
 exact ⟨v,_,he,q2 w' hs',hv,R',rfl,q1⟩
theorem string_fr (wb w:World) (T:TypeId) (b:Nat) (bs:List UInt8) (R A:Own) (hB:BlR wb T b bs R) (hw:Sy wb (A++R) w) :
 Calls Tryz.prog 25 #[selfP b] w fun e w'=>∃ v L',e=.returned v∧Sy wb L' w'∧(v=str bs∧L'=A):=by
 obtain ⟨L1,h1,h2⟩:=hB.over A
 refine (string_walk wb w T b bs L1 (A++[]) h1 (h2 w hw)).mono ?_
 rintro e w' ⟨v,L',he,hs',hv,hL⟩
 exact ⟨v,L',he,hs',hv,by rw[hL,List.append_nil]⟩
theorem esc_iff (c:UInt8):escP c≠[]↔(c.toNat < 32∨c.toNat=127∨c.toNat=34∨c.toNat=92):=by
 have:∀ k:Fin 256,escP (UInt8.ofNat k.val)≠[]↔(k.val < 32∨k.val=127∨k.val=34∨k.val=92):=by decide +kernel
 have h:=this ⟨c.toNat,c.toNat_lt⟩
 simpa using h
theorem escV_ok {s:List UInt8} {q r:Nat} {c:UInt8} (h:escV s q=.ok c r):q+2≤r:=by
 unfold escV at h
 cases hr:escR (s.drop q) with
 | none=>rw[hr] at h; cases h
 | some x =>
  obtain ⟨c',n⟩:=x
  rw[hr] at h
  cases h
  obtain ⟨h1,_,h3,_⟩:=escR_some hr
  rcases esc_two h1 with h4|h4<;>omega
theorem rest_none {s:List UInt8} {m q:Nat} (h:s[q]?=none):restV s (m+1) q=.no 8 q:=by rw[restV,h]
theorem rest_end {s:List UInt8} {m q:Nat} {c:UInt8} (h:s[q]?=some c) (hc:c.toNat=34):restV s (m+1) q=.ok [] (q+1):=by rw[restV,h]; simp only[hc,if_true]
theorem rest_esc {s:List UInt8} {m q:Nat} {c:UInt8} (h:s[q]?=some c) (hc:c.toNat=92):restV s (m+1) q=(escV s q).and fun x r=>(restV s m r).and fun l r=>.ok (x::l) r:=by
 rw[restV,h]
 simp only
 rw[if_neg (by omega),if_pos hc]
 unfold escV
 cases escR (s.drop q) with
 | none=>rfl
 | some x=>rfl
theorem rest_bad {s:List UInt8} {m q:Nat} {c:UInt8} (h:s[q]?=some c) (h1:c.toNat≠34) (h2:c.toNat≠92) (hb:escP c≠[]∨utf8P (s.drop q)=0):restV s (m+1) q=.no 8 q:=by
 rw[restV,h]
 simp only
 rw[if_neg h1,if_neg h2,if_pos hb]
theorem rest_char {s:List UInt8} {m q:Nat} {c:UInt8} (h:s[q]?=some c) (h1:c.toNat≠34) (h2:c.toNat≠92) (hb:¬ (escP c≠[]∨utf8P (s.drop q)=0)):restV s (m+1) q=(restV s m (q+utf8P (s.drop q))).and fun l r=>.ok ((s.drop q).take (utf8P (s.drop q))++l) r:=by
 rw[restV,h]
 simp only
 rw[if_neg h1,if_neg h2,if_neg hb]
structure TxI (w0:World) (pb:Nat) (s:List UInt8) (p:Nat) (M:Own) (b3:Nat) (r:PV (List UInt8)) (q:Nat) (wb:World) (e:Env) (ds:List Deferred) (L:Own):Prop where
 hw:wb=w0
 hds:ds=[]
 hq:q≤s.length
 h0:e 0=pPs pb
 h3:e 3=selfP b3
 o:∃ bs R m,L=oPs pb s q::(M++R)∧BlR w0 56 b3 bs R∧bs.length≤q∧s.length - q < m∧r=(restV s m q).and fun l r=>.ok (bs++l) r
theorem text_walk (wb w:World) (hTb:TabsAt wb) (pb:Nat) (s:List UInt8) (p:Nat) (M:Own) (hs:s.length≤65536) (hp:p≤s.length) (hpb:wb.heap.size≤pb) (hM:∀ b∈M,wb.heap.size≤b.1) (hw:Sy wb (oPs pb s p::M) w) :
 Calls Tryz.prog 70 #[pPs pb] w (PVR wb pb s M (quoteV s p) fun t v K=>v=str t∧K=[]):=by
 refine enterB (args:=[pPs pb]) Tryz.func70 rfl Tryz.ntmps70 (congrArg Array.toList Tryz.results70) (by kernel_rfl) (by simp) hw ?_
 refine sp ?_
 refine callV en_101 (callX_pv (fun w' hw'=>must_walk wb w' pb s p M 34 34 rfl hs hp hpb hw') (fun x q v K hr hq hS hK=>?_) (fun er q K hr hK=>?_))
 rotate_left
 ·refine sp ?_
  exact fun w' hw'=>PVR.fall K (by rw[quoteV,hr,PV.and_no]) hK hw'
 obtain ⟨rfl,rfl⟩:=hS
 have hr0:quoteV s p=(restV s (s.length+1) q).and fun l r=>.ok ([]++l) r:=by
  rw[quoteV,hr,PV.and_ok]
  simp only[List.nil_append]
  cases restV s (s.length+1) q<;>rfl
 refine sp ?_
 refine newI (fun b3 hb3 hn3=>?_)
 refine sp ?_
 have hB0:BlR wb 56 b3 [] [oBl 56 b3 (.pointer none) (.slice none 0 0)]:=⟨_,_,.inl rfl,⟨rfl,.inl ⟨rfl,rfl,rfl⟩⟩,fun _=>rfl,hb3⟩
 rw[Vb]
 refine sp ?_
 refine loopW (G:=Nat) (TxI wb pb s p M b3 (quoteV s p)) (fun q=>s.length - q) q (oPs pb s q::(M++[oBl 56 b3 (.pointer none) (.slice none 0 0)])) (fun w hw=>hw.perm (List.perm_append_singleton _ (oPs pb s q::M)).symm) (by kernel_rfl) ⟨rfl,rfl,hq,rfl,rfl,[],_,_,rfl,hB0,Nat.zero_le _,by omega,hr0⟩ ?_
 clear hw hr hr0 hB0 hn3
 rintro q wb e ds L ⟨rfl,rfl,hq,h0,h3,⟨bs,R,m,rfl,hB,hbl,hm,hr⟩⟩
 obtain ⟨m,rfl⟩:∃ k,m=k+1:=⟨m - 1,by omega⟩
 have hnew:∀ q',∀ b∈oPs pb s q'::(M++R),wb.heap.size≤b.1:=fun q' b hb=>by
  rcases List.mem_cons.1 hb with rfl|hb
  ·exact hpb
  ·exact (List.mem_append.1 hb).elim (hM b) (hB.new' b)
 have bad:restV s (m+1) q=.no 8 q→∀ w',Sy wb (oPs pb s q::(M++R)) w'→PVR wb pb s M (quoteV s p) (fun t v K=>v=str t∧K=[]) (.panicked [wrongE 8 q]) w':=fun h w' hw' =>
  PVR.fall (oPs pb s q::R) (by rw[hr,h,PV.and_no]) ((nC hpb hB.new')) (hw'.perm (List.Perm.cons _ List.perm_append_comm))
 rw[Vb]
 simp (disch:=omega) only[push_cast,qE,h0,h3]
 refine callV en_102 (cIs (fun w' hw'=>byte_walk w' pb s q (At.of_own hw' mem0 rfl)) ?_)
 simp (disch:=omega) only[push_cast,qE,h0,h3]
 rw[Vb]
 simp (disch:=omega) only[push_cast,qE,h0,h3]
 rw[Vc]
 simp (disch:=omega) only[push_cast,qE,h0,h3]
 refine cdD (fun hge=>?_) (fun hlt=>?_)
 ·simp (disch:=omega) only[push_cast,qE,h0,h3]
  refine lOn Shp.eq mem0 rfl ?_
  simp (disch:=omega) only[push_cast,qE,h0,h3]
  refine callV en_33 (callX_fail q ?_)
  refine sp ?_
  exact bad (rest_none (List.getElem?_eq_none (by omega)))
 have hlt:q < s.length:=by omega
 have hc:=getD_at hlt
 simp (disch:=omega) only[push_cast,qE,h0,h3]
 rw[Vc]
 simp (disch:=omega) only[push_cast,qE,h0,h3]
 refine cdD (fun h34=>?_) (fun h34=>?_)
 ·simp (disch:=omega) only[push_cast,qE,h0,h3]
  refine lOn Shp.eq mem0 rfl ?_
  simp (disch:=omega) only[push_cast,qE,h0,h3]
  refine sXa 0 rfl Siz.eq rfl rfl ?_
  simp (disch:=omega) only[push_cast,qE,h0,h3]
  refine callV en_25 (callX_weak (L':=(oPs pb s (q+1)::M)++R) (fun w hw=>by rw[oPs,Int.natCast_add]; simpa [splice] using hw) (callX_own (fun w' hw'=>string_fr wb w' _ b3 bs R _ hB hw') (fun v' L5 hv5=>?_)))
  obtain ⟨rfl,rfl⟩:=hv5
  refine sp ?_
  exact fun w' hw'=>PVR.leaf _ [] (x:=bs) (q:=q+1) (by rw[hr,rest_end hc (by omega),PV.and_ok,List.append_nil]) (by omega) ⟨rfl,rfl⟩ (by simp) hw'
 simp (disch:=omega) only[push_cast,qE,h0,h3]
 rw[Vc]
 simp (disch:=omega) only[push_cast,qE,h0,h3]
 refine cdD (fun h92=>?_) (fun h92=>?_)
 ·rw[rest_esc hc (by omega)] at hr
  simp (disch:=omega) only[push_cast,qE,h0,h3]
  refine callV en_103 (callX_pv (M:=M++R) (fun w' hw'=>escape_walk wb w' pb s q (M++R) hs hq hpb hw') (fun x q' v K hr' hq' hS hK=>?_) (fun er q' K hr' hK=>?_))
  rotate_left
  ·refine sp ?_
   exact fun w' hw'=>PVR.fall (K++R) (by rw[hr,hr',PV.and_no,PV.and_no]) (fun b hb=>(List.mem_append.1 hb).elim (hK b) (hB.new' b)) (hw'.perm (by rw[List.append_assoc]; exact List.Perm.append_left K List.perm_append_comm))
  obtain ⟨rfl,rfl⟩:=hS
  have h2:=escV_ok hr'
  simp (disch:=omega) only[push_cast,qE,h0,h3]
  refine callV en_52 (callX_own (fun w' hw'=>writeByte_fr wb w' _ (.inl rfl) b3 bs x R (oPs pb s q'::M) hB (by omega) hw') (fun v' L5 hv5=>?_))
  obtain ⟨rfl,R',rfl,hB'⟩:=hv5
  simp (disch:=omega) only[push_cast,qE,h0,h3]
  refine ⟨q',_,fun w hw=>hw,⟨rfl,rfl,hq',h0,h3,⟨bs++[x],R',m,rfl,hB',by simp only[qA,List.length_cons,List.length_nil]; omega,by omega,?_⟩⟩,by omega⟩
  rw[hr,hr',PV.and_ok,PV.and_and]
  simp only[PV.and_ok,List.append_assoc,List.singleton_append]
 simp (disch:=omega) only[push_cast,qE,h0,h3]
 refine gF rfl (fun h32=>?_) (fun h32=>?_)
 rotate_left
 ·simp (disch:=omega) only[push_cast,qE,h0,h3]
  rw[Vc]
  simp (disch:=omega) only[push_cast,qE,h0,h3]
  refine lOn Shp.eq mem0 rfl ?_
  simp (disch:=omega) only[push_cast,qE,h0,h3]
  refine callV en_33 (callX_fail q ?_)
  refine sp ?_
  exact bad (rest_bad hc (by omega) (by omega) (.inl ((esc_iff _).2 (.inl (by omega)))))
 simp (disch:=omega) only[push_cast,qE,h0,h3]
 rw[Vc]
 simp (disch:=omega) only[push_cast,qE,h0,h3]
 refine cdD (fun h127=>?_) (fun h127=>?_)
 ·simp (disch:=omega) only[push_cast,qE,h0,h3]
  refine lOn Shp.eq mem0 rfl ?_
  simp (disch:=omega) only[push_cast,qE,h0,h3]
  refine callV en_33 (callX_fail q ?_)
  refine sp ?_
  exact bad (rest_bad hc (by omega) (by omega) (.inl ((esc_iff _).2 (.inr (.inl (by omega))))))
 have hpl:escP (s.getD q 0)=[]:=Decidable.not_not.1 fun h=>by rcases (esc_iff _).1 h with h|h|h|h<;>omega
 have hdn:s.drop q≠[]:=fun h=>by have:=List.drop_eq_nil_iff.1 h; omega
 have hld:(s.drop q).length=s.length - q:=List.length_drop
 simp (disch:=omega) only[push_cast,qE,h0,h3]
 refine drawQT (by kernel_rfl) (by kernel_rfl) mixed (by kernel_rfl) ?_
 simp (disch:=omega) only[push_cast,qE,h0,h3]
 refine lOn Shp.eq mem0 rfl ?_
 simp (disch:=omega) only[push_cast,qE,h0,h3]
 refine lOn Shp.eq mem0 rfl ?_
 simp (disch:=omega) only[push_cast,qE,h0,h3]
 obtain ⟨hz,hnz⟩:=decode_utf8 (s.drop q) hdn
 by_cases hu:utf8P (s.drop q)=0
 ·refine qcallV en_104 (qcallX_is (.tuple #[.int .i32 65533,i64 1]) (fun w' hw'=>by have:=decode_walk w' (hTb.mono hw' (hnew q)) (s.drop q) hdn; rw[hz hu] at this; exact this) ?_)
  simp (disch:=omega) only[push_cast,qE,h0,h3]
  refine gT rfl (fun _=>?_) (fun h=>absurd trivial h)
  simp (disch:=omega) only[push_cast,qE,h0,h3]
  rw[Vc]
  simp (disch:=omega) only[push_cast,qE,h0,h3]
  refine cdD (fun _=>?_) (fun h=>absurd trivial h)
  simp (disch:=omega) only[push_cast,qE,h0,h3]
  refine lOn Shp.eq mem0 rfl ?_
  simp (disch:=omega) only[push_cast,qE,h0,h3]
  refine callV en_33 (callX_fail q ?_)
  refine sp ?_
  exact bad (rest_bad hc (by omega) (by omega) (.inr hu))
 obtain ⟨hn,hno⟩:=hnz hu
 obtain ⟨r,hrd⟩:∃ r,(Lib.decodeL (s.drop q)).1=r:=⟨_,rfl⟩
 obtain ⟨n,hnd⟩:∃ n,utf8P (s.drop q)=n:=⟨_,rfl⟩
 have hle:n≤s.length - q:=by have:=utf8_le (s.drop q) hdn; omega
 rw[hrd,hn,hnd] at hno
 rw[rest_char hc (by omega) (by omega) (by rw[hpl]; simp[hu]),hnd] at hr
 rw[hnd] at hu
 have hdl:Lib.decodeL (s.drop q)=(r,n):=by rw[← hrd,← hnd,← hn]
 refine qcallV en_104 (qcallX_is (.tuple #[.int .i32 r,i64 n]) (fun w' hw'=>by have:=decode_walk w' (hTb.mono hw' (hnew q)) (s.drop q) hdn; rw[hdl] at this; exact this) ?_)
 simp (disch:=omega) only[push_cast,qE,h0,h3]
 have hsl:(s.drop q).take n=List.drop q (List.take ((q:Int)+n).toNat s):=by rw[show ((q:Int)+n).toNat=q+n by omega,List.drop_take]; congr 1; omega
 have htn:(s.drop q).take n≠[]:=fun h=>by have:=congrArg List.length h; rw[List.length_take,List.length_nil] at this; omega
 refine gT rfl (fun h1=>?_) (fun h1=>?_)
 ·simp (disch:=omega) only[push_cast,qE,h0,h3]
  rw[Vc]
  simp (disch:=omega) only[push_cast,qE,h0,h3]
  refine cdD (fun h=>absurd ⟨by omega,by omega⟩ hno) (fun _=>?_)
  simp (disch:=omega) only[push_cast,qE,h0,h3]
  refine freeT [0,1,2,3,4,5,6,7,8,9,10,11,12,13,14] [15] [oPs pb s q] (by kernel_rfl) mixed (by kernel_rfl) (Stab.of ((List.nil_sublist _).cons_cons _) (hnew q)) ?_
  simp (disch:=omega) only[push_cast,qE,h0,h3]
  refine lOn Shp.eq mem0 rfl ?_
  simp (disch:=omega) only[push_cast,qE,h0,h3]
  refine lOn Shp.eq mem0 rfl ?_
  simp (disch:=omega) only[push_cast,qE,h0,h3]
  refine lOn Shp.eq mem0 rfl ?_
  simp (disch:=omega) only[push_cast,qE,h0,h3,Int.toNat_natCast]
  refine callV en_46 (callX_own (fun w' hw'=>write_fr wb w' _ (.inl rfl) b3 bs (List.drop q (List.take ((q:Int)+n).toNat s)) R (oPs pb s q::M) hB (by rw[← hsl]; exact htn) (by rw[← hsl,List.length_take]; omega) hw') (fun v' L5 hv5=>?_))
  obtain ⟨rfl,R',rfl,hB'⟩:=hv5
  rw[← hsl] at hB'
  refine ⟨rfl,Stab.of ((List.nil_sublist _).cons_cons _) (fun b hb=>by
   rcases List.mem_append.1 hb with hb|hb
   ·rcases List.mem_cons.1 hb with rfl|hb
    ·exact hpb
    ·exact hM b hb
   ·exact hB'.new' b hb),?_⟩
  simp (disch:=omega) only[push_cast,qE,h0,h3]
  refine lOn Shp.eq mem0 rfl ?_
  simp (disch:=omega) only[push_cast,qE,h0,h3]
  refine sXa 0 rfl Siz.eq rfl rfl ?_
  simp (disch:=omega) only[push_cast,qE,h0,h3]
  refine ⟨q+n,oPs pb s (q+n)::(M++R'),fun w hw=>by rw[oPs,Int.natCast_add]; simpa [splice] using hw,⟨rfl,rfl,by omega,h0,h3,⟨bs++(s.drop q).take n,R',m,rfl,hB',by rw[qA,List.length_take]; omega,by omega,?_⟩⟩,by omega⟩
  rw[hr,PV.and_and]
  simp only[PV.and_ok,List.append_assoc]
 ·simp (disch:=omega) only[push_cast,qE,h0,h3]
  rw[Vc]
  simp (disch:=omega) only[push_cast,qE,h0,h3]
  refine freeT [0,1,2,3,4,5,6,7,8,9,10,11,12,13,14] [15] [oPs pb s q] (by kernel_rfl) mixed (by kernel_rfl) (Stab.of ((List.nil_sublist _).cons_cons _) (hnew q)) ?_
  simp (disch:=omega) only[push_cast,qE,h0,h3]
  refine lOn Shp.eq mem0 rfl ?_
  simp (disch:=omega) only[push_cast,qE,h0,h3]
  refine lOn Shp.eq mem0 rfl ?_
  simp (disch:=omega) only[push_cast,qE,h0,h3]
  refine lOn Shp.eq mem0 rfl ?_
  simp (disch:=omega) only[push_cast,qE,h0,h3,Int.toNat_natCast]
  refine callV en_46 (callX_own (fun w' hw'=>write_fr wb w' _ (.inl rfl) b3 bs (List.drop q (List.take ((q:Int)+n).toNat s)) R (oPs pb s q::M) hB (by rw[← hsl]; exact htn) (by rw[← hsl,List.length_take]; omega) hw') (fun v' L5 hv5=>?_))
  obtain ⟨rfl,R',rfl,hB'⟩:=hv5
  rw[← hsl] at hB'
  refine ⟨rfl,Stab.of ((List.nil_sublist _).cons_cons _) (fun b hb=>by
   rcases List.mem_append.1 hb with hb|hb
   ·rcases List.mem_cons.1 hb with rfl|hb
    ·exact hpb
    ·exact hM b hb
   ·exact hB'.new' b hb),?_⟩
  simp (disch:=omega) only[push_cast,qE,h0,h3]
  refine lOn Shp.eq mem0 rfl ?_
  simp (disch:=omega) only[push_cast,qE,h0,h3]
  refine sXa 0 rfl Siz.eq rfl rfl ?_
  simp (disch:=omega) only[push_cast,qE,h0,h3]
  refine ⟨q+n,oPs pb s (q+n)::(M++R'),fun w hw=>by rw[oPs,Int.natCast_add]; simpa [splice] using hw,⟨rfl,rfl,by omega,h0,h3,⟨bs++(s.drop q).take n,R',m,rfl,hB',by rw[qA,List.length_take]; omega,by omega,?_⟩⟩,by omega⟩
  rw[hr,PV.and_and]
  simp only[PV.and_ok,List.append_assoc]
end Go.Proofs.YtilejcofleeeiaaGreatDoor
