/- YtilejcofleeeiaaGreatDoor: walks, part 263: the reference's reader: whole numbers with a sign; an odd number times a power of two. -/
import Derived.Test.YtilejcofleeeiaaGreatDoorW256
namespace Go.Proofs.YtilejcofleeeiaaGreatDoor
open Go Go.K
open Nat renaming reduceEqDiff → qE
set_option maxRecDepth 100000
set_option linter.unusedVariables false
set_option linter.unusedSimpArgs false
set_option maxHeartbeats 4000000
theorem nm_mono (u:List UInt8):∀ (n:Nat) (v:List UInt8),v.length=n→nmO u≤nmO (u++v)
 | 0,v,h=>by rw[List.eq_nil_of_length_eq_zero h,List.append_nil]; exact Nat.le_refl _
 | n+1,v,h=>by
  rcases List.eq_nil_or_concat v with rfl|⟨t,c,rfl⟩
  ·simp at h
  ·rw[List.concat_eq_append,← List.append_assoc,nmO_append]
   have:=nm_mono u n t (un h)
   omega
theorem dec_of:∀ (n:Nat) (s:List UInt8),s.length=n+1→(∀ c∈s,dgB c=true)→((s.getD 0 0).toNat=48→n=0)→Lib.decDigits (nmO s)=s
 | 0,s,hl,hd,hz=>by
  obtain ⟨c,rfl⟩:=List.length_eq_one_iff.1 hl
  have hc:=(dgB_iff c).1 (hd c (.head _))
  rw[show nmO [c]=c.toNat - 48 by simp[nmO],Lib.decDigits,dif_pos (by omega),show 48+(c.toNat - 48)=c.toNat by omega,UInt8.ofNat_toNat]
 | n+1,s,hl,hd,hz=>by
  rcases List.eq_nil_or_concat s with rfl|⟨t,c,rfl⟩
  ·simp at hl
  rw[List.concat_eq_append] at hl hd hz ⊢
  have htl:t.length=n+1:=by simpa using hl
  have hc:=(dgB_iff c).1 (hd c (by simp))
  have h0:((t++[c]).getD 0 0)=t.getD 0 0:=by
   rw[List.getD_eq_getElem?_getD,List.getD_eq_getElem?_getD,List.getElem?_append_left (by omega)]
  rw[h0] at hz
  have hne:(t.getD 0 0).toNat≠48:=fun h=>by have:=hz h; omega
  have ih:=dec_of n t htl (fun x hx=>hd x (List.mem_append_left _ hx)) (fun h=>absurd h hne)
  have hpos:0 < nmO t:=by
   rcases Nat.eq_zero_or_pos (nmO t) with h|h
   ·exfalso
    rw[h,Lib.decDigits,dif_pos (by decide)] at ih
    rw[← ih] at hne
    exact hne rfl
   ·exact h
  rw[nmO_append,Lib.decDigits,dif_neg (by omega),show (10 * nmO t+(c.toNat - 48)) / 10=nmO t by omega,show (10 * nmO t+(c.toNat - 48)) % 10=c.toNat - 48 by omega,ih,show 48+(c.toNat - 48)=c.toNat by omega,UInt8.ofNat_toNat]
def TnS (most:Nat) (s:List UInt8) (v:Value):Prop:=∃ (x:Nat) (b:Bool),v=.tuple #[.int .u64 (x:Int),.bool b]∧x≤most∧(b=true→Lib.decDigits x=s)∧(b=false→x=0∧∀ y,y≤most→Lib.decDigits y≠s)
theorem TnS.no {most:Nat} {s:List UInt8} (h:∀ y,y≤most→Lib.decDigits y≠s):TnS most s (.tuple #[.int .u64 0,.bool false]):=⟨0,false,rfl,Nat.zero_le _,fun h=>absurd h (by decide),fun _=>⟨rfl,h⟩⟩
structure TnJ (w0:World) (s:List UInt8) (most:Nat) (i:Nat) (wb:World) (e:Env) (ds:List Deferred) (L:Own):Prop where
 hw:wb=w0
 hds:ds=[]
 o:L=[]
 hi:i≤s.length
 hd:∀ c∈s.take i,dgB c=true
 hm:nmO (s.take i)≤most
 h0:e 0=str s
 h1:e 1=.int .u64 most
 h6:e 6=.int .u64 (nmO (s.take i):Nat)
 h7:e 7=i64 i
theorem tensR_walk (w:World) (s:List UInt8) (most:Nat) (hm9:9≤most) (hml:most < 18446744073709551616) (hs:s.length≤65536):Calls Tryz.prog 91 #[str s,.int .u64 most] w (Rets w fun v _=>TnS most s v):=by
 refine enterT (args:=[str s,.int .u64 most]) Tryz.func91 rfl Tryz.ntmps91 (congrArg Array.toList Tryz.results91) (by kernel_rfl) (by simp) (Sy.refl w) ?_
 refine sp ?_
 refine gF rfl (fun hne=>?_) (fun he=>?_)
 rotate_left
 ·refine sp ?_
  rw[Vc]
  refine sp ?_
  exact finEx (by simp) fun w' _=>TnS.no fun y hy e=>by
   have:=dec_pos y
   rw[e] at this
   omega
 refine sp ?_
 refine gF rfl (fun hle=>?_) (fun hgt=>?_)
 rotate_left
 ·refine sp ?_
  rw[Vc]
  refine sp ?_
  exact finEx (by simp) fun w' _=>TnS.no fun y hy e=>by
   have:=dec_len (u:=y) (by omega)
   rw[e] at this
   omega
 have hdec0:∀ y,Lib.decDigits y=s→(s.getD 0 0).toNat=48→s.length=1:=fun y e h=>by
  obtain ⟨q1,q2,q3,q4,q5⟩:=dec_all y
  rcases Nat.eq_zero_or_pos y with rfl|hy
  ·rw[← e]; exact q3 (by decide)
  ·exfalso
   rw[e] at q4
   apply q4 hy
   have h1:=getD_at (s:=s) (i:=0) (by omega)
   rw[List.head?_eq_getElem?,h1,show s.getD 0 0=48 from UInt8.toNat_inj.1 h]
 refine sp ?_
 refine gT rfl (fun hz=>?_) (fun hz=>?_)
 refine sp ?_
 rw[Vc]
 refine sp ?_
 refine cdD (fun h1=>?_) (fun h1=>?_)
 ·refine sp ?_
  exact finEx (by simp) fun w' _=>TnS.no fun y hy e=>by
   have:=hdec0 y e (by omega)
   omega
 have hgood:(s.getD 0 0).toNat=48→s.length=1:=fun _=>by omega
 rotate_left
 have hgood:(s.getD 0 0).toNat=48→s.length=1:=fun h=>absurd h (by omega)
 refine sp ?_
 rw[Vc]
 all_goals
  clear hz
  refine sp ?_
  rw[Vb]
  refine sp ?_
  refine loopW (G:=Nat) (TnJ w s most) (fun i=>s.length - i) 0 _ (fun w hw=>hw) (by kernel_rfl) ⟨rfl,rfl,rfl,Nat.zero_le _,by simp,by simp[nmO],rfl,rfl,uu,rfl⟩ ?_
  rintro i wb e ds L ⟨rfl,rfl,rfl,hi,hd,hm,h0,h1,h6,h7⟩
  obtain ⟨a,ha⟩:∃ a,nmO (s.take i)=a:=⟨_,rfl⟩
  rw[ha] at hm h6
  simp (disch:=omega) only[push_cast,qE,h0,h7]
  rw[Vc]
  simp (disch:=omega) only[push_cast,qE,h0,h7]
  refine cdD (fun hlt=>?_) (fun hge=>?_)
  rotate_left
  ·obtain rfl:i=s.length:=by omega
   rw[List.take_length] at hd ha
   simp (disch:=omega) only[push_cast,qE,h6]
   refine finEx (by simp) fun w' _=>⟨a,true,rfl,hm,fun _=>?_,fun h=>absurd h (by decide)⟩
   rw[← ha]
   exact dec_of (s.length - 1) s (by omega) hd (fun h=>by have:=hgood h; omega)
  obtain ⟨c,hc⟩:∃ c,s.getD i 0=c:=⟨_,rfl⟩
  have hsc:s[i]?=some c:=by rw[← hc]; exact getD_at (by omega)
  have hcl:=c.toNat_lt
  have htk:s.take (i+1)=s.take i++[c]:=by rw[List.take_add_one,hsc]; rfl
  simp (disch:=omega) only[push_cast,qE,h0,h7]
  rw[Vb]
  simp (disch:=omega) only[push_cast,qE,h0,h7,hc]
  have nodig:¬ (48≤c.toNat∧c.toNat≤57)→∀ y,y≤most→Lib.decDigits y≠s:=fun h y _ e=>by
   have:=(dec_all y).1 c (by rw[e]; exact List.mem_of_getElem? hsc)
   exact h ((dgB_iff c).1 this)
  refine gF rfl (fun h48=>?_) (fun h48=>?_)
  rotate_left
  ·simp (disch:=omega) only[push_cast,qE,h0,h7,hc]
   rw[Vc]
   refine sp ?_
   exact finEx (by simp) fun w' _=>TnS.no (nodig (by omega))
  simp (disch:=omega) only[push_cast,qE,h0,h7,hc]
  rw[Vc]
  refine sp ?_
  refine cdD (fun h57=>?_) (fun h57=>?_)
  ·refine sp ?_
   exact finEx (by simp) fun w' _=>TnS.no (nodig (by omega))
  obtain ⟨d,hdd⟩:∃ d,c.toNat - 48=d:=⟨_,rfl⟩
  have hd9:d≤9:=by omega
  have e1:IntKind.u8.wrap ((c.toNat:Int) - 48)=(d:Int):=by simp only[IntKind.wrap,IntKind.bits,IntKind.signed]; simp; omega
  have e2:IntKind.u64.wrap (d:Int)=(d:Int):=wu64 (by omega) (by omega)
  obtain ⟨r,hr⟩:∃ r,most - d=r:=⟨_,rfl⟩
  have e3:IntKind.u64.wrap ((most:Int) - d)=(r:Int):=by rw[wu64 (by omega) (by omega)]; omega
  have hnx:nmO (s.take (i+1))=10 * a+d:=by rw[htk,nmO_append,ha,hdd]
  have over:most < 10 * a+d→∀ y,y≤most→Lib.decDigits y≠s:=fun h y hy e=>by
   have h5:=(dec_all y).2.2.2.2
   rw[e] at h5
   have h6:=nm_mono (s.take (i+1)) _ (s.drop (i+1)) rfl
   rw[List.take_append_drop,hnx] at h6
   omega
  simp (disch:=omega) only[push_cast,qE,h0,h1,h6,h7,hc,e1,e2,e3,quo10]
  refine gF rfl (fun hov=>?_) (fun hov=>?_)
  rotate_left
  ·simp (disch:=omega) only[push_cast,qE,h1]
   rw[Vc]
   refine sp ?_
   exact finEx (by simp) fun w' _=>TnS.no (over (by omega))
  simp (disch:=omega) only[push_cast,qE,h1]
  rw[Vc]
  refine sp ?_
  refine cdD (fun hdm=>absurd hdm (by omega)) (fun _=>?_)
  obtain ⟨a2,ha2⟩:∃ a2,a * 10=a2:=⟨_,rfl⟩
  have e4:IntKind.u64.wrap ((a:Int) * 10)=(a2:Int):=by rw[wu64 (by omega) (by omega)]; omega
  obtain ⟨a3,ha3⟩:∃ a3,a2+d=a3:=⟨_,rfl⟩
  have e5:IntKind.u64.wrap ((a2:Int)+d)=(a3:Int):=by rw[wu64 (by omega) (by omega)]; omega
  simp (disch:=omega) only[push_cast,qE,h6,h7,e4,e5]
  refine ⟨i+1,_,fun w hw=>hw,⟨rfl,rfl,rfl,by omega,fun x hx=>?_,by rw[hnx]; omega,h0,h1,?_,i64_eq (by omega)⟩,by omega⟩
  ·rw[htk] at hx
   rcases List.mem_append.1 hx with hx|hx
   ·exact hd x hx
   ·rw[List.mem_singleton.1 hx]; exact (dgB_iff c).2 (by omega)
  ·rw[hnx,show 10 * a+d=a3 by omega]; rfl
theorem un_negI {P:Program} {K:Value→Prop} (x:Int):PureX P (Op.unary .neg (i64 x)) (tag K)=K (i64 (IntKind.i64.wrap (0 - x))):=px (fun w=>by
 simp only[Op.unary,Op.intArith,Sem.run_pure]) K
def WhS (s:List UInt8) (v:Value):Prop:=∃ (n:Int) (b:Bool),v=.tuple #[i64 n,.bool b]∧(-9223372036854775808≤n∧n < 9223372036854775808)∧(b=true→Lib.itoa n=s)∧(b=false→∀ m,-9223372036854775808≤m∧m < 9223372036854775808→Lib.itoa m≠s)
theorem itoa_neg {m:Int} {s:List UInt8} (h:m < 0) (e:Lib.itoa m=s):(s.getD 0 0).toNat=45∧1 < s.length∧s.drop 1=Lib.decDigits m.natAbs:=by
 unfold Lib.itoa at e
 rw[if_pos h] at e
 subst e
 have:=dec_pos m.natAbs
 exact ⟨rfl,by rw[List.length_cons]; omega,rfl⟩
theorem itoa_pos {m:Int} {s:List UInt8} (h:¬ m < 0) (e:Lib.itoa m=s):(s.getD 0 0).toNat≠45∧s=Lib.decDigits m.toNat:=by
 unfold Lib.itoa at e
 rw[if_neg h] at e
 subst e
 refine ⟨fun h=>?_,rfl⟩
 have hp:=dec_pos m.toNat
 have:=(dec_all m.toNat).1 _ (List.mem_of_getElem? (getD_at hp))
 have:=(dgB_iff _).1 this
 omega
theorem drop_one {s:List UInt8} (h:1 < s.length) (h0:(s.getD 0 0).toNat=45):s=45::s.drop 1:=by
 have h1:=cons_drop (getD_at (s:=s) (i:=0) (by omega))
 rw[List.drop_zero,show s.getD 0 0=45 from UInt8.toNat_inj.1 h0] at h1
 exact h1
theorem wholeN_walk (w:World) (s:List UInt8) (hs:s.length≤65536):Calls Tryz.prog 93 #[str s] w (Rets w fun v _=>WhS s v):=by
 refine enterT (args:=[str s]) Tryz.func93 rfl Tryz.ntmps93 (congrArg Array.toList Tryz.results93) (by kernel_rfl) (by simp) (Sy.refl w) ?_
 refine sp ?_
 refine gT rfl (fun hlt=>?_) (fun hge=>?_)
 refine sp ?_
 rw[Vc]
 refine sp ?_
 refine cdD (fun h45=>?_) (fun h45=>?_)
 ·have hcons:=drop_one (s:=s) (by omega) (by omega)
  have hdl:(s.drop 1).length≤65536:=by rw[List.length_drop]; omega
  have hno:∀ m,-9223372036854775808≤m∧m < 9223372036854775808→Lib.itoa m=s→m < 0∧m.natAbs≤9223372036854775808∧s.drop 1=Lib.decDigits m.natAbs:=fun m hm e=>by
   by_cases h:m < 0
   ·exact ⟨h,by omega,(itoa_neg h e).2.2⟩
   ·exact absurd (by omega) (itoa_pos h e).1
  refine sp ?_
  refine callV en_91 (callX_ex (fun w' hw'=>tensR_walk w' (s.drop 1) 9223372036854775808 (by omega) (by omega) hdl) (fun v hv=>?_))
  obtain ⟨x,b,rfl,hx,hb1,hb0⟩:=hv
  have en:IntKind.i64.wrap (0 - IntKind.i64.wrap (x:Int))=-(x:Int):=by
   rw[show IntKind.i64.wrap (x:Int)=_ from IntKind.wrap_i64 _,IntKind.wrap_i64]; omega
  simp (disch:=omega) only[push_cast,qE,un_negI,en]
  refine gbT rfl (fun hb=>?_) (fun hb=>?_)
  ·subst hb
   refine sp ?_
   refine finEx (by simp) fun w' _=>⟨-(x:Int),decide ((0:Int) < x),rfl,by omega,fun h=>?_,fun h m hm e=>?_⟩
   ·have h:=of_decide_eq_true h
    unfold Lib.itoa
    rw[if_pos (by omega),show (-(x:Int)).natAbs=x by omega,hb1 rfl]
    exact hcons.symm
   ·have h:=of_decide_eq_false h
    obtain ⟨q1,q2,q3⟩:=hno m hm e
    have:=dec_inj ((hb1 rfl).trans q3)
    omega
  ·subst hb
   obtain ⟨rfl,hnone⟩:=hb0 rfl
   refine sp ?_
   refine finEx (by simp) fun w' _=>⟨-((0:Nat):Int),false,rfl,by decide,fun h=>absurd h (by decide),fun _ m hm e=>?_⟩
   obtain ⟨q1,q2,q3⟩:=hno m hm e
   exact hnone _ q2 q3.symm
 have hno:∀ m,-9223372036854775808≤m∧m < 9223372036854775808→Lib.itoa m=s→¬ m < 0:=fun m hm e h=>by
  have:=itoa_neg h e
  omega
 rotate_left
 have hno:∀ m,-9223372036854775808≤m∧m < 9223372036854775808→Lib.itoa m=s→¬ m < 0:=fun m hm e h=>by
  have:=itoa_neg h e
  omega
 refine sp ?_
 rw[Vc]
 all_goals
  refine sp ?_
  refine callV en_91 (callX_ex (fun w' hw'=>tensR_walk w' s 9223372036854775807 (by omega) (by omega) hs) (fun v hv=>?_))
  obtain ⟨x,b,rfl,hx,hb1,hb0⟩:=hv
  have en:IntKind.i64.wrap (x:Int)=(x:Int):=by
   rw[IntKind.wrap_i64]; omega
  simp (disch:=omega) only[push_cast,qE,en]
  refine finEx (by simp) fun w' _=>⟨(x:Int),b,rfl,by omega,fun h=>?_,fun h m hm e=>?_⟩
  ·unfold Lib.itoa
   rw[if_neg (by omega),Int.toNat_natCast]
   exact hb1 h
  ·have h1:=hno m hm e
   exact (hb0 h).2 m.toNat (by omega) (itoa_pos h1 e).2.symm
def ScS (m:Nat) (a:Int) (v:Value):Prop:=∃ (n:Int) (b:Bool),v=.tuple #[i64 n,.bool b]∧(b=true→(m=0∧a=0∧n=0)∨(FinOK m a∧n=(bitsOf m a:Nat)))∧(b=false→¬ (m=0∧a=0)∧¬ FinOK m a)
structure ScI (w0:World) (m:Nat) (a:Int) (k:Nat) (wb:World) (e:Env) (ds:List Deferred) (L:Own):Prop where
 hw:wb=w0
 hds:ds=[]
 o:L=[]
 hk:k≤blen m
 h0:e 0=.int .u64 m
 h1:e 1=i64 a
 h6:e 6=i64 k
theorem shrQ {P:Program} {m k q:Nat} (hq:m / 2 ^ k=q) (h:k≤64) {K:Value→Prop} (t:TypeId) (x y:Operand):PureX P (binV .shr t x y (.int .u64 m) (.int .i64 k)) (tag K)=K (.int .u64 (q:Int)):=by
 have e:=bshr (P:=P) (K:=K) .u64 .i64 t x y m k (by omega)
 rw[e,Int.toNat_natCast,show min k IntKind.u64.bits=k from Nat.min_eq_left (show k≤64 from h),← hq]
 congr 2
theorem scaled_walk (w:World) (m:Nat) (a:Int) (hm:m < 9007199254740992) (ha : -1074≤a∧a≤1023):Calls Tryz.prog 124 #[.int .u64 m,i64 a] w (Rets w fun v _=>ScS m a v):=by
 refine enterT (args:=[.int .u64 m,i64 a]) Tryz.func124 rfl Tryz.ntmps124 (congrArg Array.toList Tryz.results124) (by kernel_rfl) (by simp) (Sy.refl w) ?_
 refine sp ?_
 rw[Vc]
 refine sp ?_
 refine cdD (fun h0=>?_) (fun h0=>?_)
 ·refine sp ?_
  refine finEx (by simp) fun w' _=>⟨0,decide (a=0),rfl,fun h=>.inl ⟨by omega,of_decide_eq_true h,rfl⟩,fun h=>⟨fun h2=>of_decide_eq_false h h2.2,fun h2=>by have:=h2.odd; omega⟩⟩
 simp (disch:=omega) only[push_cast,qE,rem2]
 rw[Vc]
 refine sp ?_
 refine cdD (fun hev=>?_) (fun hodd=>?_)
 ·refine sp ?_
  exact finEx (by simp) fun w' _=>⟨0,false,rfl,fun h=>absurd h (by decide),fun _=>⟨fun h2=>by omega,fun h2=>by have:=h2.odd; omega⟩⟩
 obtain ⟨b1,b2,b3⟩:=blen_spec (m:=m) (by omega)
 have b53:blen m≤53:=blen_le (k:=53) (by have:(2:Nat) ^ 53=9007199254740992:=rfl; omega)
 refine sp ?_
 rw[Vb]
 refine sp ?_
 refine loopW (G:=Nat) (ScI w m a) (fun k=>64 - k) 0 _ (fun w hw=>hw) (by kernel_rfl) ⟨rfl,rfl,rfl,by omega,rfl,rfl,rfl⟩ ?_
 rintro k wb e ds L ⟨rfl,rfl,rfl,hk,h0',h1,h6⟩
 obtain ⟨q,hq⟩:∃ q,m / 2 ^ k=q:=⟨_,rfl⟩
 have hsh:=@shrQ Tryz.prog m k q hq (by omega)
 simp (disch:=omega) only[push_cast,qE,h0',h6,hsh]
 rw[Vc]
 simp (disch:=omega) only[push_cast,qE,h0',h6]
 refine cdD (fun hgo=>?_) (fun hend=>?_)
 ·have hlt:k < blen m:=by
   rcases Nat.lt_or_ge k (blen m) with h|h
   ·exact h
   ·exfalso
    have e:k=blen m:=by omega
    subst e
    rw[Nat.div_eq_of_lt b2] at hq
    omega
  simp (disch:=omega) only[push_cast,qE,h6]
  rw[Vb]
  simp (disch:=omega) only[push_cast,qE,h6]
  exact ⟨k+1,_,fun w hw=>hw,⟨rfl,rfl,rfl,by omega,h0',h1,i64_eq (by omega)⟩,by omega⟩
 have hkb:k=blen m:=by
  rcases Nat.lt_or_ge k (blen m) with h|h
  ·exfalso
   apply hend
   have:2 ^ k≤m:=Nat.le_trans (Nat.pow_le_pow_right (by decide) (by omega)) b1
   have:=Nat.div_pos this (Nat.two_pow_pos k)
   rw[hq] at this
   omega
  ·omega
 subst hkb
 obtain ⟨k,hkk⟩:∃ k,blen m=k:=⟨_,rfl⟩
 rw[hkk] at h6 b1 b2 b3 b53
 simp (disch:=omega) only[push_cast,qE,h1,h6]
 rw[Vc]
 simp (disch:=omega) only[push_cast,qE,h1,h6]
 refine cdD (fun hbig=>?_) (fun hbig=>?_)
 ·refine sp ?_
  exact finEx (by simp) fun w' _=>⟨0,false,rfl,fun h=>absurd h (by decide),fun _=>⟨fun h2=>by omega,fun h2=>by have:=h2.hi; omega⟩⟩
 have hfin:FinOK m a:=⟨by omega,hm,ha.1,by omega⟩
 have hlt:=bitsOf_lt (m:=m) (a:=a) (by omega) hm ha.1 (by omega)
 refine sp ?_
 rw[Vc]
 refine sp ?_
 refine cdD (fun hsm=>?_) (fun hsm=>?_)
 ·have hbo:bitsOf m a=m * 2 ^ (a+1074).toNat:=by unfold bitsOf; rw[if_neg (by omega)]
  obtain ⟨j,hj⟩:∃ j:Nat,a+1074=(j:Int):=⟨(a+1074).toNat,by omega⟩
  rw[hj,Int.toNat_natCast] at hbo
  obtain ⟨z,hz⟩:∃ z,m * 2 ^ j=z:=⟨_,rfl⟩
  rw[hbo,hz] at hlt
  have hsl:∀ {K:Value→Prop} (t:TypeId) (x y:Operand),PureX Tryz.prog (binV .shl t x y (.int .u64 m) (.int .i64 (j:Int))) (tag K)=K (.int .u64 (z:Int)):=fun {K} t x y=>by
   have e:=shlP (P:=Tryz.prog) (K:=K) t x y m (j:Int) (by omega) (by omega) (by rw[Int.toNat_natCast,hz]; omega)
   rw[Int.toNat_natCast,hz] at e
   exact e
  have ew:IntKind.i64.wrap (z:Int)=(z:Int):=by rw[IntKind.wrap_i64]; omega
  simp (disch:=omega) only[push_cast,qE,h1,h0',hj,hsl,ew]
  exact finEx (by simp) fun w' _=>⟨(z:Int),true,rfl,fun _=>.inr ⟨hfin,by rw[hbo,hz]⟩,fun h=>absurd h (by decide)⟩
 ·have hbo:bitsOf m a=(a+k+1022).toNat * 4503599627370496+(m * 2 ^ (53 - k) - 4503599627370496):=by unfold bitsOf; rw[hkk,if_pos (by omega)]
  obtain ⟨s1,s2⟩:=scale (m:=m) (by omega) (by rw[hkk]; exact b53)
  rw[hkk] at s1 s2
  obtain ⟨j,hj⟩:∃ j:Nat,(53:Int) - k=(j:Int):=⟨53 - k,by omega⟩
  rw[show 53 - k=j by omega] at s1 s2 hbo
  obtain ⟨z,hz⟩:∃ z,m * 2 ^ j=z:=⟨_,rfl⟩
  obtain ⟨ee,hee⟩:∃ ee:Nat,a+k - 1+1023=(ee:Int):=⟨(a+k - 1+1023).toNat,by omega⟩
  rw[hz] at s1 s2
  rw[hz,show (a+k+1022).toNat=ee by omega] at hbo
  have hsl:∀ {K:Value→Prop} (t:TypeId) (x y:Operand),PureX Tryz.prog (binV .shl t x y (.int .u64 m) (.int .i64 (j:Int))) (tag K)=K (.int .u64 (z:Int)):=fun {K} t x y=>by
   have e:=shlP (P:=Tryz.prog) (K:=K) t x y m (j:Int) (by omega) (by omega) (by rw[Int.toNat_natCast,hz]; omega)
   rw[Int.toNat_natCast,hz] at e
   exact e
  obtain ⟨y,hy⟩:∃ y,ee * 4503599627370496=y:=⟨_,rfl⟩
  have hsI:∀ {K:Value→Prop} (t:TypeId) (x' y':Operand),PureX Tryz.prog (binV .shl t x' y' (i64 (ee:Int)) (.int .u64 52)) (tag K)=K (i64 (y:Int)):=fun {K} t x' y'=>by
   rw[bshl .i64 .u64 t x' y' (ee:Int) 52 (by decide)]
   congr 1
   have:IntKind.i64.wrap ((ee:Int) * 2 ^ min (52:Int).toNat IntKind.i64.bits)=(y:Int):=by
    rw[show (2:Int) ^ min (52:Int).toNat IntKind.i64.bits=4503599627370496 from rfl,IntKind.wrap_i64]
    omega
   rw[this]
  have e1:IntKind.u64.wrap ((z:Int) - 4503599627370496)=((z - 4503599627370496:Nat):Int):=by rw[wu64 (by omega) (by omega)]; omega
  obtain ⟨z2,hz2⟩:∃ z2,z - 4503599627370496=z2:=⟨_,rfl⟩
  rw[hz2] at e1 hbo
  have e2:IntKind.i64.wrap (z2:Int)=(z2:Int):=by rw[IntKind.wrap_i64]; omega
  have e3:IntKind.i64.wrap ((y:Int)+z2)=(y:Int)+z2:=by rw[IntKind.wrap_i64]; omega
  simp (disch:=omega) only[push_cast,qE,h1,h0',h6,hee,hj,hsl,hsI,e1,e2,e3]
  exact finEx (by simp) fun w' _=>⟨(y:Int)+z2,true,rfl,fun _=>.inr ⟨hfin,by rw[hbo,hy]; omega⟩,fun h=>absurd h (by decide)⟩
end Go.Proofs.YtilejcofleeeiaaGreatDoor
