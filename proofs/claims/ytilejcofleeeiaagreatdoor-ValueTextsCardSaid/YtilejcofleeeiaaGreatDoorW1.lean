/- YtilejcofleeeiaaGreatDoor: walks, part 1: the small functions of kind. -/
import Derived.Test.YtilejcofleeeiaaGreatDoorW82
namespace Go.Proofs.YtilejcofleeeiaaGreatDoor
open Go Go.K
open Nat renaming reduceEqDiff → qE
set_option maxRecDepth 100000
set_option linter.unusedVariables false
set_option linter.unusedSimpArgs false
def hexC (n:Nat):UInt8:=UInt8.ofNat (if n < 10 then 48+n else 87+n)
def hexs:Nat→Nat→List UInt8
 | _,0=>[]
 | x,m+1=>hexs (x / 16) m++[hexC (x % 16)]
theorem hexs_len:∀ (m x:Nat),(hexs x m).length=m
 | 0,x=>rfl
 | m+1,x=>by rw[hexs,List.length_append,hexs_len m]; rfl
theorem hexC_nat {n:Nat} (h:n < 16):(hexC n).toNat=if n < 10 then 48+n else 87+n:=by
 unfold hexC
 rw[UInt8.toNat_ofNat']
 split<;>omega
theorem hexC_inj {a b:Nat} (ha:a < 16) (hb:b < 16) (h:hexC a=hexC b):a=b:=by
 have:=congrArg UInt8.toNat h
 rw[hexC_nat ha,hexC_nat hb] at this
 split at this<;>split at this<;>omega
theorem hexs_inj:∀ (m x y:Nat),x < 16 ^ m→y < 16 ^ m→hexs x m=hexs y m→x=y
 | 0,x,y,hx,hy,_=>by simp at hx hy; omega
 | m+1,x,y,hx,hy,h=>by
  rw[hexs,hexs] at h
  obtain ⟨h1,h2⟩:=List.append_inj' h rfl
  have h3:=hexC_inj (Nat.mod_lt _ (by decide)) (Nat.mod_lt _ (by decide)) (List.singleton_inj.1 h2)
  rw[Nat.pow_succ] at hx hy
  have h4:=hexs_inj m _ _ (by omega) (by omega) h1
  omega
def twos:Nat→Nat→Nat
 | 0,_=>0
 | f+1,m=>if m % 2=0 then twos f (m / 2)+1 else 0
theorem twos_odd {f m:Nat} (h:m % 2=1):twos f m=0:=by cases f with
 | zero=>rfl
 | succ f=>rw[twos,if_neg (by omega)]
theorem twos_mul:∀ (s f m:Nat),m % 2=1→s≤f→twos f (m * 2 ^ s)=s
 | 0,f,m,hm,_=>by rw[Nat.pow_zero,Nat.mul_one]; exact twos_odd hm
 | s+1,0,m,hm,hs=>by omega
 | s+1,f+1,m,hm,hs=>by
  rw[Nat.pow_succ,← Nat.mul_assoc,twos,if_pos (Nat.mul_mod_left _ _),Nat.mul_div_cancel _ (by decide),twos_mul s f m hm (by omega)]
theorem twos_spec:∀ (f M:Nat),0 < M→M < 2 ^ f→M=M / 2 ^ twos f M * 2 ^ twos f M∧(M / 2 ^ twos f M) % 2=1∧twos f M≤f
 | 0,M,h0,h1=>by simp at h1; omega
 | f+1,M,h0,h1=>by
  rw[Nat.pow_succ] at h1
  by_cases h:M % 2=0
  ·obtain ⟨q1,q2,q3⟩:=twos_spec f (M / 2) (by omega) (by omega)
   have e:twos (f+1) M=twos f (M / 2)+1:=by rw[twos,if_pos h]
   rw[e]
   have e2:M / 2 ^ (twos f (M / 2)+1)=M / 2 / 2 ^ twos f (M / 2):=by rw[Nat.pow_succ,Nat.mul_comm,Nat.div_div_eq_div_mul]
   rw[e2]
   refine ⟨?_,q2,by omega⟩
   rw[Nat.pow_succ,← Nat.mul_assoc,← q1]
   omega
  ·have e:twos (f+1) M=0:=by rw[twos,if_neg h]
   rw[e,Nat.pow_zero,Nat.div_one,Nat.mul_one]
   exact ⟨rfl,by omega,by omega⟩
def fracM (x:Nat):Nat:=if x / 4503599627370496=0 then x % 4503599627370496 else x % 4503599627370496+4503599627370496
def expE (x:Nat):Int:=(max (x / 4503599627370496) 1:Nat) - 1075
def oddM (x:Nat):Nat:=fracM x / 2 ^ twos 64 (fracM x)
def oddE (x:Nat):Int:=expE x+twos 64 (fracM x)
def finT (m:Nat) (a:Int):List UInt8:=Lib.decDigits m++112::Lib.itoa a
def floatU (x:Nat):List UInt8 :=
 if x / 4503599627370496=2047 then if x % 4503599627370496=0 then [105,110,102] else [110,97,110]++hexs (x % 4503599627370496) 13
 else if x=0 then [48,112,48] else finT (oddM x) (oddE x)
def blen (m:Nat):Nat:=if m=0 then 0 else m.log2+1
def bitsOf (m:Nat) (a:Int):Nat :=
 if -1022≤a+blen m - 1 then (a+blen m+1022).toNat * 4503599627370496+(m * 2 ^ (53 - blen m) - 4503599627370496) else m * 2 ^ (a+1074).toNat
structure FinOK (m:Nat) (a:Int):Prop where
 odd:m % 2=1
 lt:m < 9007199254740992
 lo : -1074≤a
 hi:a+blen m - 1≤1023
theorem blen_spec {m:Nat} (h:0 < m):2 ^ (blen m - 1)≤m∧m < 2 ^ blen m∧0 < blen m:=by
 unfold blen
 rw[if_neg (by omega)]
 refine ⟨?_,Nat.lt_log2_self,by omega⟩
 rw[Nat.add_sub_cancel]
 exact Nat.log2_self_le (by omega)
theorem blen_eq {m L:Nat} (h1:2 ^ L≤m) (h2:m < 2 ^ (L+1)):blen m=L+1:=by
 unfold blen
 have hp:0 < 2 ^ L:=Nat.two_pow_pos _
 rw[if_neg (by omega)]
 congr 1
 exact (Nat.log2_eq_iff (by omega)).2 ⟨h1,h2⟩
theorem blen_le {m k:Nat} (h:m < 2 ^ k):blen m≤k:=by
 unfold blen
 split
 ·omega
 ·rename_i h0
  have:=(Nat.log2_lt h0).2 h
  omega
theorem FinOK.len {m:Nat} {a:Int} (h:FinOK m a):1≤blen m∧blen m≤53:=by
 have h1:=h.odd
 have:=(blen_spec (m:=m) (by omega)).2.2
 have h2:blen m≤53:=blen_le (k:=53) (by have:=h.lt; omega)
 omega
theorem scale {m:Nat} (hm:0 < m) (hl:blen m≤53):4503599627370496≤m * 2 ^ (53 - blen m)∧m * 2 ^ (53 - blen m) < 9007199254740992:=by
 obtain ⟨h1,h2,h3⟩:=blen_spec hm
 have e1:2 ^ (blen m - 1) * 2 ^ (53 - blen m)=4503599627370496:=by
  rw[← Nat.pow_add,show blen m - 1+(53 - blen m)=52 by omega]
 have e2:2 ^ blen m * 2 ^ (53 - blen m)=9007199254740992:=by
  rw[← Nat.pow_add,show blen m+(53 - blen m)=53 by omega]
 have hp:0 < 2 ^ (53 - blen m):=Nat.two_pow_pos _
 rw[← e1,← e2]
 exact ⟨Nat.mul_le_mul_right _ h1,Nat.mul_lt_mul_of_pos_right h2 hp⟩
theorem bits_back {m:Nat} {a:Int} (h:FinOK m a):bitsOf m a / 4503599627370496 < 2047∧0 < bitsOf m a∧bitsOf m a < 9223372036854775808∧oddM (bitsOf m a)=m∧oddE (bitsOf m a)=a:=by
 have hm:0 < m:=by have:=h.odd; omega
 obtain ⟨l1,l2⟩:=h.len
 have hlo:=h.lo
 have hhi:=h.hi
 by_cases hn : -1022≤a+blen m - 1
 ·obtain ⟨s1,s2⟩:=scale hm l2
  have e:bitsOf m a=(a+blen m+1022).toNat * 4503599627370496+(m * 2 ^ (53 - blen m) - 4503599627370496):=if_pos hn
  have q1:bitsOf m a / 4503599627370496=(a+blen m+1022).toNat:=by rw[e]; omega
  have q2:bitsOf m a % 4503599627370496=m * 2 ^ (53 - blen m) - 4503599627370496:=by rw[e]; omega
  have hf:fracM (bitsOf m a)=m * 2 ^ (53 - blen m):=by
   unfold fracM
   rw[q1,q2,if_neg (by omega)]
   omega
  have ht:twos 64 (fracM (bitsOf m a))=53 - blen m:=by rw[hf]; exact twos_mul _ _ _ h.odd (by omega)
  refine ⟨by omega,by omega,by omega,?_,?_⟩
  ·unfold oddM
   rw[ht,hf,Nat.mul_div_cancel _ (Nat.two_pow_pos _)]
  ·unfold oddE expE
   rw[ht,q1]
   omega
 ·have e:bitsOf m a=m * 2 ^ (a+1074).toNat:=if_neg hn
  have hlt:m * 2 ^ (a+1074).toNat < 4503599627370496:=by
   have h1:=(blen_spec hm).2.1
   have h2:m * 2 ^ (a+1074).toNat < 2 ^ blen m * 2 ^ (a+1074).toNat:=Nat.mul_lt_mul_of_pos_right h1 (Nat.two_pow_pos _)
   rw[← Nat.pow_add] at h2
   have h3:2 ^ (blen m+(a+1074).toNat)≤2 ^ 52:=Nat.pow_le_pow_right (by decide) (by omega)
   have h4:(2:Nat) ^ 52=4503599627370496:=rfl
   omega
  have hpos:0 < m * 2 ^ (a+1074).toNat:=Nat.mul_pos hm (Nat.two_pow_pos _)
  have q1:bitsOf m a / 4503599627370496=0:=by rw[e]; omega
  have q2:bitsOf m a % 4503599627370496=m * 2 ^ (a+1074).toNat:=by rw[e]; omega
  have hf:fracM (bitsOf m a)=m * 2 ^ (a+1074).toNat:=by
   unfold fracM
   rw[q1,q2,if_pos rfl]
  have ht:twos 64 (fracM (bitsOf m a))=(a+1074).toNat:=by rw[hf]; exact twos_mul _ _ _ h.odd (by omega)
  refine ⟨by omega,by omega,by omega,?_,?_⟩
  ·unfold oddM
   rw[ht,hf,Nat.mul_div_cancel _ (Nat.two_pow_pos _)]
  ·unfold oddE expE
   rw[ht,q1]
   simp
   omega
theorem bits_forth {x:Nat} (h0:0 < x) (h1:x / 4503599627370496 < 2047):FinOK (oddM x) (oddE x)∧bitsOf (oddM x) (oddE x)=x:=by
 have hf0:0 < fracM x:=by unfold fracM; split<;>omega
 have hf1:fracM x < 9007199254740992:=by unfold fracM; split<;>omega
 obtain ⟨t1,t2,t3⟩:=twos_spec 64 (fracM x) hf0 (by have:(2:Nat) ^ 64=18446744073709551616:=rfl; omega)
 have em:oddM x=fracM x / 2 ^ twos 64 (fracM x):=rfl
 rw[← em] at t1 t2
 have hm0:0 < oddM x:=by omega
 generalize hs:twos 64 (fracM x)=s at *
 obtain ⟨b1,b2,b3⟩:=blen_spec hm0

 have hlen:blen (fracM x)=blen (oddM x)+s:=by
  obtain ⟨L,hL⟩:∃ L,blen (oddM x)=L+1:=⟨blen (oddM x) - 1,by omega⟩
  rw[hL] at b1 b2 ⊢
  rw[show L+1+s=L+s+1 by omega]
  refine blen_eq ?_ ?_
  ·rw[t1,Nat.pow_add]
   exact Nat.mul_le_mul_right _ (un b1)
  ·rw[t1,show L+s+1=L+1+s by omega,Nat.pow_add]
   exact Nat.mul_lt_mul_of_pos_right b2 (Nat.two_pow_pos _)
 have hE:oddE x=expE x+s:=by unfold oddE; rw[hs]
 have hml:oddM x < 9007199254740992:=by
  have:oddM x * 1≤oddM x * 2 ^ s:=Nat.mul_le_mul_left _ (Nat.two_pow_pos _)
  omega
 by_cases hp:x / 4503599627370496=0
 ·have hfx:fracM x=x:=by unfold fracM; rw[if_pos hp]; omega
  have hx52:blen (fracM x)≤52:=blen_le (k:=52) (by rw[hfx]; have:(2:Nat) ^ 52=4503599627370496:=rfl; omega)
  have hEx:expE x=-1074:=by unfold expE; rw[hp]; rfl
  refine ⟨⟨t2,hml,by rw[hE,hEx]; omega,by rw[hE,hEx]; omega⟩,?_⟩
  unfold bitsOf
  rw[if_neg (by rw[hE,hEx]; omega),hE,hEx,show (-1074+(s:Int)+1074).toNat=s by omega,← t1,hfx]
 ·have hfx:fracM x=x % 4503599627370496+4503599627370496:=by unfold fracM; rw[if_neg hp]
  have hx53:blen (fracM x)=53:=blen_eq (L:=52) (by rw[hfx]; have:(2:Nat) ^ 52=4503599627370496:=rfl; omega) (by have:(2:Nat) ^ 53=9007199254740992:=rfl; omega)
  have hEx:expE x=(x / 4503599627370496:Nat) - 1075:=by unfold expE; congr 2; omega
  refine ⟨⟨t2,hml,by rw[hE,hEx]; omega,by rw[hE,hEx]; omega⟩,?_⟩
  unfold bitsOf
  rw[if_pos (by rw[hE,hEx]; omega),show 53 - blen (oddM x)=s by omega,← t1,hfx,hE,hEx]
  omega
theorem finT_inj {m n:Nat} {a b:Int} (h:finT m a=finT n b):m=n∧a=b:=by
 have key:∀ (u v:List UInt8) (x y:List UInt8),(∀ c∈u,dgB c=true)→(∀ c∈v,dgB c=true)→u++112::x=v++112::y→u=v∧x=y:=by
  intro u
  induction u with
  | nil =>
   intro v x y _ hv e
   cases v with
   | nil=>exact ⟨rfl,(List.cons.inj e).2⟩
   | cons c v=>have:=hv c (.head _); rw[← (List.cons.inj e).1] at this; exact absurd this (by decide)
  | cons c u ih =>
   intro v x y hu hv e
   cases v with
   | nil=>have:=hu c (.head _); rw[(List.cons.inj e).1] at this; exact absurd this (by decide)
   | cons d v =>
    obtain ⟨e1,e2⟩:=List.cons.inj e
    obtain ⟨q1,q2⟩:=ih v x y (fun z hz=>hu z (.tail _ hz)) (fun z hz=>hv z (.tail _ hz)) e2
    exact ⟨by rw[e1,q1],q2⟩
 obtain ⟨h1,h2⟩:=key _ _ _ _ (dec_all m).1 (dec_all n).1 h
 exact ⟨dec_inj h1,itoa_inj h2⟩
theorem finT_head (m:Nat) (a:Int):∃ c r,finT m a=c::r∧dgB c=true:=by
 obtain ⟨h1,h2,_⟩:=dec_all m
 obtain ⟨c,r,e⟩:=List.exists_cons_of_ne_nil h2
 exact ⟨c,r++112::Lib.itoa a,by unfold finT; rw[e]; rfl,h1 c (by rw[e]; exact .head _)⟩
theorem zero_finT:finT 0 0=[48,112,48]:=by
 have h0:Lib.decDigits 0=[48]:=by rw[Lib.decDigits]; rfl
 unfold finT Lib.itoa
 rw[if_neg (by decide),show Int.toNat 0=0 from rfl,h0]
 rfl
theorem floatU_head (x:Nat):∃ c r,floatU x=c::r∧c≠45:=by
 unfold floatU
 split
 ·split
  ·exact ⟨_,_,rfl,by decide⟩
  ·exact ⟨_,_,rfl,by decide⟩
 ·split
  ·exact ⟨_,_,rfl,by decide⟩
  ·obtain ⟨c,r,e,h⟩:=finT_head (oddM x) (oddE x)
   exact ⟨c,r,e,fun h0=>by subst h0; exact absurd h (by decide)⟩
theorem floatU_inj {x y:Nat} (hx:x < 9223372036854775808) (hy:y < 9223372036854775808) (h:floatU x=floatU y):x=y:=by
 have ft:∀ m a (t:List UInt8),t.head?=some 105∨t.head?=some 110→finT m a≠t:=fun m a t ht e=>by
  obtain ⟨c,r,e2,h2⟩:=finT_head m a
  rw[← e,e2] at ht
  simp only[List.head?_cons,Option.some.injEq] at ht
  rcases ht with rfl|rfl<;>exact absurd h2 (by decide)
 by_cases px:x / 4503599627370496=2047<;>by_cases py:y / 4503599627370496=2047
 ·by_cases zx:x % 4503599627370496=0<;>by_cases zy:y % 4503599627370496=0
  ·omega
  ·unfold floatU at h; rw[if_pos px,if_pos py,if_pos zx,if_neg zy] at h; exact absurd (List.cons.inj h).1 (by decide)
  ·unfold floatU at h; rw[if_pos px,if_pos py,if_neg zx,if_pos zy] at h; exact absurd (List.cons.inj h).1 (by decide)
  ·unfold floatU at h
   rw[if_pos px,if_pos py,if_neg zx,if_neg zy] at h
   have:=hexs_inj 13 _ _ (by have:(16:Nat) ^ 13=4503599627370496:=rfl; omega) (by have:(16:Nat) ^ 13=4503599627370496:=rfl; omega) (List.append_cancel_left h)
   omega
 ·exfalso
  have h2:∃ m a,floatU y=finT m a:=by
   unfold floatU
   rw[if_neg py]
   split
   ·exact ⟨0,0,zero_finT.symm⟩
   ·exact ⟨_,_,rfl⟩
  obtain ⟨m,a,e⟩:=h2
  refine ft m a (floatU x) ?_ (e.symm.trans h.symm)
  unfold floatU
  rw[if_pos px]
  split
  ·exact .inl rfl
  ·exact .inr rfl
 ·exfalso
  have h2:∃ m a,floatU x=finT m a:=by
   unfold floatU
   rw[if_neg px]
   split
   ·exact ⟨0,0,zero_finT.symm⟩
   ·exact ⟨_,_,rfl⟩
  obtain ⟨m,a,e⟩:=h2
  refine ft m a (floatU y) ?_ (e.symm.trans h)
  unfold floatU
  rw[if_pos py]
  split
  ·exact .inl rfl
  ·exact .inr rfl
 ·unfold floatU at h
  rw[if_neg px,if_neg py] at h
  by_cases zx:x=0<;>by_cases zy:y=0
  ·omega
  ·exfalso
   rw[if_pos zx,if_neg zy,← zero_finT] at h
   have h3:=(finT_inj h).1
   have h4:=(bits_forth (x:=y) (by omega) (by omega)).1.odd
   omega
  ·exfalso
   rw[if_neg zx,if_pos zy,← zero_finT] at h
   have h3:=(finT_inj h).1
   have h4:=(bits_forth (x:=x) (by omega) (by omega)).1.odd
   omega
  ·rw[if_neg zx,if_neg zy] at h
   obtain ⟨e1,e2⟩:=finT_inj h
   rw[← (bits_forth (x:=x) (by omega) (by omega)).2,← (bits_forth (x:=y) (by omega) (by omega)).2,e1,e2]
def magU (n:Int):Nat:=(n % 9223372036854775808).toNat
def floatT (n:Int):List UInt8:=if n < 0 then 45::floatU (magU n) else floatU (magU n)
theorem floatT_inj {a b:Int} (ha : -9223372036854775808≤a∧a < 9223372036854775808) (hb : -9223372036854775808≤b∧b < 9223372036854775808) (h:floatT a=floatT b):a=b:=by
 unfold floatT at h
 have m1:magU a < 9223372036854775808:=by unfold magU; omega
 have m2:magU b < 9223372036854775808:=by unfold magU; omega
 split at h<;>split at h
 ·have:=floatU_inj m1 m2 (List.cons.inj h).2
  unfold magU at this
  omega
 ·obtain ⟨c,r,e,h2⟩:=floatU_head (magU b)
  rw[e] at h
  exact absurd (List.cons.inj h).1.symm h2
 ·obtain ⟨c,r,e,h2⟩:=floatU_head (magU a)
  rw[e] at h
  exact absurd (List.cons.inj h).1 h2
 ·have:=floatU_inj m1 m2 h
  unfold magU at this
  omega
def unsP (n:Int):Nat:=(n % 18446744073709551616).toNat
def boolT (b:Bool):List UInt8:=if b then [116,114,117,101] else [102,97,108,115,101]
def numT (k n:Int):List UInt8:=if k=2 then boolT (decide (n=1)) else if k=10 then Lib.decDigits (unsP n) else if k=11 then floatT n else Lib.itoa n
def isNum (k n:Int):Prop:=(-9223372036854775808≤n∧n < 9223372036854775808)∧(if k=2 then n=0∨n=1 else if k=11 then True else wholeP k=true∧rangedP k n=true)
theorem numT_inj {k a b:Int} (ha:isNum k a) (hb:isNum k b) (h:numT k a=numT k b):a=b:=by
 obtain ⟨a1,a2⟩:=ha
 obtain ⟨b1,b2⟩:=hb
 unfold numT at h
 by_cases k2:k=2
 ·rw[if_pos k2] at a2 b2 h
  rw[if_pos k2] at h
  rcases a2 with rfl|rfl<;>rcases b2 with rfl|rfl<;>first|rfl|exact absurd h (by decide)
 rw[if_neg k2,if_neg k2] at h
 by_cases k10:k=10
 ·rw[if_pos k10,if_pos k10] at h
  have:=dec_inj h
  unfold unsP at this
  omega
 rw[if_neg k10,if_neg k10] at h
 by_cases k11:k=11
 ·rw[if_pos k11,if_pos k11] at h
  exact floatT_inj a1 b1 h
 rw[if_neg k11,if_neg k11] at h
 exact itoa_inj h
open Classical in
noncomputable def readN (k:Int) (w:List UInt8):Option Int:=if h:∃ n,isNum k n∧numT k n=w then some h.choose else none
theorem readN_some {k n:Int} {w:List UInt8} (h:readN k w=some n):isNum k n∧numT k n=w:=by
 unfold readN at h
 split at h
 ·rename_i hx
  cases h
  exact hx.choose_spec
 ·cases h
theorem readN_yes {k n:Int} {w:List UInt8} (h:isNum k n) (hw:numT k n=w):readN k w=some n:=by
 unfold readN
 have hx:∃ n,isNum k n∧numT k n=w:=⟨n,h,hw⟩
 rw[dif_pos hx]
 exact congrArg some (numT_inj hx.choose_spec.1 h (hx.choose_spec.2.trans hw.symm))
theorem readN_no {k:Int} {w:List UInt8} (h:∀ n,isNum k n→numT k n≠w):readN k w=none:=by
 unfold readN
 rw[dif_neg (fun ⟨n,h1,h2⟩=>h n h1 h2)]
set_option maxHeartbeats 4000000
abbrev letterP (c:Int):Prop:=97≤c∧c≤122∨65≤c∧c≤90∨48≤c∧c≤57∨c=95
theorem letter_walk (w:World) (c:Int):Calls Tryz.prog 160 #[.int .u8 c] w (Rets w (Is (.bool (decide (letterP c))))):=by
 refine enterT (args:=[.int .u8 c]) Tryz.func160 rfl Tryz.ntmps160 (congrArg Array.toList Tryz.results160) (by kernel_rfl) (by simp) (Sy.refl w) ?_
 refine sp ?_
 repeat' (first|((first|((first|refine gT rfl ?_ ?_|refine gF rfl ?_ ?_|refine cdD ?_ ?_)<;>intro h)|((first|refine gbT rfl ?_ ?_|refine gbF rfl ?_ ?_|refine cdB ?_ ?_)<;>intro h<;>(try subst h))|refine lOa Shp.eq rfl ?_|refine lAa Shp.eq rfl rfl ?_|refine newI (fun b hb hn=>?_)|refine sXb Siz.eq rfl rfl ?_)<;>simp (disch:=omega) only[push_cast,qE])|(first|rw[Vc]|rw[Vb])<;>(try simp (disch:=omega) only[push_cast,qE]))
 all_goals (refine fun w' hw=>⟨_,rfl,hw,?_⟩; first|exact is_t (by omega)|exact is_f (by omega)|exact is_d (by omega))
theorem known_walk (w:World) (k:Int):Calls Tryz.prog 162 #[i64 k] w (Rets w (Is (.bool (decide (1≤k∧k≤20))))):=by
 refine enterT (args:=[i64 k]) Tryz.func162 rfl Tryz.ntmps162 (congrArg Array.toList Tryz.results162) (by kernel_rfl) (by simp) (Sy.refl w) ?_
 refine sp ?_
 repeat' (first|((first|((first|refine gT rfl ?_ ?_|refine gF rfl ?_ ?_|refine cdD ?_ ?_)<;>intro h)|((first|refine gbT rfl ?_ ?_|refine gbF rfl ?_ ?_|refine cdB ?_ ?_)<;>intro h<;>(try subst h))|refine lOa Shp.eq rfl ?_|refine lAa Shp.eq rfl rfl ?_|refine newI (fun b hb hn=>?_)|refine sXb Siz.eq rfl rfl ?_)<;>simp (disch:=omega) only[push_cast,qE])|(first|rw[Vc]|rw[Vb])<;>(try simp (disch:=omega) only[push_cast,qE]))
 all_goals (refine fun w' hw=>⟨_,rfl,hw,?_⟩; first|exact is_t (by omega)|exact is_f (by omega)|exact is_d (by omega))
abbrev nameLet (l:List UInt8) (k:Nat):Prop:=∀ j,j < k→letterP (l.getD j 0).toNat∧¬ (j=0∧48≤(l.getD 0 0).toNat∧(l.getD 0 0).toNat≤57)
def isName (l:List UInt8):Prop:=nameLet l l.length∧l≠[]∧l.length≤48
theorem nameLet_succ {l:List UInt8} {k:Nat} (h:nameLet l k) (h1:letterP (l.getD k 0).toNat) (h2:¬ (k=0∧48≤(l.getD k 0).toNat∧(l.getD k 0).toNat≤57)):nameLet l (k+1):=by
 intro j hj
 rcases Nat.lt_or_ge j k with h3|h3
 ·exact h j h3
 ·obtain rfl:j=k:=by omega
  refine ⟨h1,fun ⟨e,h4⟩=>h2 ?_⟩
  subst e
  exact ⟨rfl,h4⟩
structure NamedI (w0:World) (l:List UInt8) (k:Nat) (wb:World) (e:Env) (ds:List Deferred) (L:Own):Prop where
 hw:wb=w0
 d:ds=[]
 o:L=[]
 kl:k≤l.length
 n:nameLet l k
 h0:e 0=str l
 h6:e 6=i64 l.length
 h7:e 7=i64 k
theorem named_walk (w:World) (l:List UInt8) (hl:l.length≤9223372036854775807):Calls Tryz.prog 138 #[str l] w (Rets w fun v _=>∃ b,v=.bool b∧(b=true↔isName l)):=by
 refine enterT (args:=[str l]) Tryz.func138 rfl Tryz.ntmps138 (congrArg Array.toList Tryz.results138) (by kernel_rfl) (by simp) (Sy.refl w) ?_
 refine sp ?_
 refine loopT (G:=Nat) (NamedI w l) (fun k=>l.length - k) 0 (by kernel_rfl) ⟨rfl,rfl,rfl,by omega,fun j h=>by omega,rfl,rfl,rfl⟩ ?_
 rintro k wb e ds L ⟨rfl,rfl,rfl,hk,hn,h0,h6,h7⟩
 simp (disch:=omega) only[push_cast,qE,h0,h6,h7]
 rw[Vc]
 simp (disch:=omega) only[push_cast,qE,h0,h6,h7]
 refine cdD (fun hlt=>?_) (fun hge=>?_)
 ·simp (disch:=omega) only[push_cast,qE,h0,h6,h7]
  try rw[Vb]
  simp (disch:=omega) only[push_cast,qE,h0,h6,h7]
  refine callV en_160 (cIs (fun w _=>letter_walk w _) ?_)
  simp (disch:=omega) only[push_cast,qE,h0,h6,h7]
  repeat' (first|((first|((first|refine gT rfl ?_ ?_|refine gF rfl ?_ ?_|refine cdD ?_ ?_)<;>intro h)|((first|refine gbT rfl ?_ ?_|refine gbF rfl ?_ ?_|refine cdB ?_ ?_)<;>intro h<;>(try subst h))|refine lOa Shp.eq rfl ?_|refine lAa Shp.eq rfl rfl ?_|refine newI (fun b hb hn=>?_)|refine sXb Siz.eq rfl rfl ?_)<;>simp (disch:=omega) only[push_cast,qE,h0,h6,h7])|(first|rw[Vc]|rw[Vb])<;>(try simp (disch:=omega) only[push_cast,qE,h0,h6,h7]))
  all_goals first
   | (refine fun w' hw=>⟨_,rfl,hw,_,rfl,?_⟩
      refine ⟨fun h=>(by cases h),fun h=>?_⟩
      exfalso
      have h1:=h.1 k (by omega)
      first|(exact absurd h1.1 (by assumption))|(obtain rfl:k=0:=(by omega); exact h1.2 ⟨rfl,by omega,by omega⟩))
   | (refine ⟨k+1,⟨rfl,rfl,rfl,by omega,nameLet_succ hn (by first|assumption|exact Decidable.not_not.1 (by assumption)) (by omega),h0,h6,?_⟩,by omega⟩
      simp only[upd]; rfl)
 ·simp (disch:=omega) only[push_cast,qE,h0,h6,h7]
  obtain rfl:k=l.length:=by omega
  repeat' (first|((first|((first|refine gT rfl ?_ ?_|refine gF rfl ?_ ?_|refine cdD ?_ ?_)<;>intro h)|((first|refine gbT rfl ?_ ?_|refine gbF rfl ?_ ?_|refine cdB ?_ ?_)<;>intro h<;>(try subst h))|refine lOa Shp.eq rfl ?_|refine lAa Shp.eq rfl rfl ?_|refine newI (fun b hb hn=>?_)|refine sXb Siz.eq rfl rfl ?_)<;>simp (disch:=omega) only[push_cast,qE,h0,h6,h7])|(first|rw[Vc]|rw[Vb])<;>(try simp (disch:=omega) only[push_cast,qE,h0,h6,h7]))
  ·refine fun w' hw=>⟨_,rfl,hw,_,rfl,?_⟩
   rw[decide_eq_true_iff]
   exact ⟨fun x=>⟨hn,h,by omega⟩,fun x=>by have:=x.2.2; omega⟩
  ·refine fun w' hw=>⟨_,rfl,hw,_,rfl,?_⟩
   exact ⟨fun x=>(by cases x),fun x=>absurd x.2.1 h⟩
end Go.Proofs.YtilejcofleeeiaaGreatDoor
