/- YtilejcofleeeiaaGreatDoor: plain: what the reference prints: the text, or something longer than most, as the text is. -/
import Derived.Test.YtilejcofleeeiaaGreatDoorW225
namespace Go.Proofs.YtilejcofleeeiaaGreatDoor
open Go Go.K
open Nat renaming reduceEqDiff → qE
open List renaming length_cons → qN, length_append → qA, length_nil → qO, getElem?_eq_getElem → qH
set_option maxRecDepth 100000
set_option linter.unusedVariables false
set_option linter.unusedSimpArgs false
set_option maxHeartbeats 4000000
theorem un_negU {P:Program} {K:Value→Prop} (x:Int):PureX P (Op.unary .neg (.int .u64 x)) (tag K)=K (.int .u64 (IntKind.u64.wrap (0 - x))):=px (fun w=>by
 simp only[Op.unary,Op.intArith,Sem.run_pure]) K
section
variable {P:Program} {K:Value→Prop} (t:TypeId) (x y:Operand)
theorem quoU (n c:Int) (hc:0 < c) (h0:0≤n) (h1:n < 18446744073709551616):PureX P (binV .quo t x y (.int .u64 n) (.int .u64 c)) (tag K)=K (.int .u64 (n / c)):=px (fun w=>by
 have e:IntKind.u64.wrap (n.tdiv c)=n / c:=by
  rw[Int.tdiv_eq_ediv_of_nonneg h0]
  have q1:n / c≤n:=Int.ediv_le_self _ h0
  have q2:0≤n / c:=Int.ediv_nonneg h0 (by omega)
  exact wu64 q2 (by omega)
 have hc0:c≠0:=by omega
 simp[binV,eqGuard,binOp,Op.intDiv,e,hc0]) K
theorem remU (n c:Int) (hc:0 < c) (h0:0≤n) (h1:n < 18446744073709551616):PureX P (binV .rem t x y (.int .u64 n) (.int .u64 c)) (tag K)=K (.int .u64 (n % c)):=px (fun w=>by
 have hc0:c≠0:=by omega
 simp[binV,eqGuard,binOp,Op.intDiv,hc0]
 rw[Int.tmod_eq_emod_of_nonneg h0]) K
theorem quo10 (n:Int) (h0:0≤n) (h1:n < 18446744073709551616):PureX P (binV .quo t x y (.int .u64 n) (.int .u64 10)) (tag K)=K (.int .u64 (n / 10)):=quoU t x y n 10 (by decide) h0 h1
theorem quo16 (n:Int) (h0:0≤n) (h1:n < 18446744073709551616):PureX P (binV .quo t x y (.int .u64 n) (.int .u64 16)) (tag K)=K (.int .u64 (n / 16)):=quoU t x y n 16 (by decide) h0 h1
theorem quo2 (n:Int) (h0:0≤n) (h1:n < 18446744073709551616):PureX P (binV .quo t x y (.int .u64 n) (.int .u64 2)) (tag K)=K (.int .u64 (n / 2)):=quoU t x y n 2 (by decide) h0 h1
theorem rem10 (n:Int) (h0:0≤n) (h1:n < 18446744073709551616):PureX P (binV .rem t x y (.int .u64 n) (.int .u64 10)) (tag K)=K (.int .u64 (n % 10)):=remU t x y n 10 (by decide) h0 h1
theorem rem16 (n:Int) (h0:0≤n) (h1:n < 18446744073709551616):PureX P (binV .rem t x y (.int .u64 n) (.int .u64 16)) (tag K)=K (.int .u64 (n % 16)):=remU t x y n 16 (by decide) h0 h1
theorem rem2 (n:Int) (h0:0≤n) (h1:n < 18446744073709551616):PureX P (binV .rem t x y (.int .u64 n) (.int .u64 2)) (tag K)=K (.int .u64 (n % 2)):=remU t x y n 2 (by decide) h0 h1
theorem quo16b (c:UInt8):PureX P (binV .quo t x y (.int .u8 (c.toNat:Int)) (.int .u8 16)) (tag K)=K (.int .u8 ((c.toNat / 16:Nat):Int)):=px (fun w=>by
 have h1:=c.toNat_lt
 have e:IntKind.u8.wrap ((c.toNat:Int) / 16)=(c.toNat:Int) / 16:=by
  simp[IntKind.wrap,IntKind.bits,IntKind.signed]
  omega
 simp[binV,eqGuard,binOp,Op.intDiv,e]) K
theorem rem16b (c:UInt8):PureX P (binV .rem t x y (.int .u8 (c.toNat:Int)) (.int .u8 16)) (tag K)=K (.int .u8 ((c.toNat % 16:Nat):Int)):=px (fun w=>by
 simp[binV,eqGuard,binOp,Op.intDiv]
 rw[Int.tmod_eq_emod_of_nonneg (by omega)]) K
end
theorem dec_small {x:Nat} (h:x < 10):Lib.decDigits x=[hexC x]:=by
 rw[Lib.decDigits,dif_pos h]
 unfold hexC
 rw[if_pos h]
theorem dec_more {x:Nat} (h:¬ x < 10):Lib.decDigits x=Lib.decDigits (x / 10)++[hexC (x % 10)]:=by
 rw[Lib.decDigits,dif_neg h]
 unfold hexC
 rw[if_pos (by omega)]
theorem tens_rec:∀ (n x:Nat),x < n→x < 18446744073709551616→∀ (w:World),Calls Tryz.prog 38 #[.int .u64 x] w (Rets w (Is (str (Lib.decDigits x))))
 | 0,x,h,_,w=>absurd h (Nat.not_lt_zero _)
 | n+1,x,hx,hl,w=>by
  refine enterT (args:=[.int .u64 x]) Tryz.func38 rfl Tryz.ntmps38 (congrArg Array.toList Tryz.results38) (by kernel_rfl) (by simp) (Sy.refl w) ?_
  refine sp ?_
  rw[Vc]
  refine sp ?_
  refine cdD (fun h=>?_) (fun h=>?_)
  ·refine sp ?_
   refine slHex (q:=x) rfl (wu64 (by omega) (by omega)) (by omega) ?_
   refine sp ?_
   exact finIs (by simp) (by rw[dec_small (by omega)])
  ·refine sp ?_
   refine drawQT (by kernel_rfl) (by kernel_rfl) mixed (by kernel_rfl) ?_
   obtain ⟨m,hm,hq⟩:∃ m:Nat,m=x / 10∧(x:Int) / 10=m:=⟨_,rfl,by omega⟩
   simp (disch:=omega) only[push_cast,qE,quo10,hq]
   refine qcallV en_38 (qcallX_is _ (fun w' hw'=>tens_rec n m (by omega) (by omega) w') ?_)
   simp (disch:=omega) only[push_cast,qE,rem10]
   refine slHex (q:=x % 10) (by omega) (by rw[wu64 (by omega) (by omega)]; omega) (by omega) ?_
   refine sp ?_
   have hl1:=dec_len (u:=m) (by omega)
   refine addS (by simp only[qN,qO,qA]; omega) ?_
   refine sp ?_
   exact finIs (by simp) (by rw[dec_more (x:=x) (by omega),hm])
theorem tens_walk (w:World) (x:Nat) (hl:x < 18446744073709551616):Calls Tryz.prog 38 #[.int .u64 x] w (Rets w (Is (str (Lib.decDigits x)))):=tens_rec (x+1) x (Nat.lt_succ_self _) hl w
theorem wholeR_walk (w:World) (n:Int) (h1 : -9223372036854775808≤n) (h2:n < 9223372036854775808):Calls Tryz.prog 43 #[i64 n] w (Rets w (Is (str (Lib.itoa n)))):=by
 refine enterT (args:=[i64 n]) Tryz.func43 rfl Tryz.ntmps43 (congrArg Array.toList Tryz.results43) (by kernel_rfl) (by simp) (Sy.refl w) ?_
 refine sp ?_
 rw[Vc]
 refine sp ?_
 obtain ⟨u,hu⟩:∃ u,unsP n=u:=⟨_,rfl⟩
 have ew:IntKind.u64.wrap n=(u:Int):=by rw[wrapU n h1 h2,hu]
 have hul:u < 18446744073709551616:=by rw[← hu]; unfold unsP; omega
 refine cdD (fun h=>?_) (fun h=>?_)
 ·obtain ⟨m,hm⟩:∃ m:Nat,m=n.natAbs:=⟨_,rfl⟩
  have en:IntKind.u64.wrap (0 - (u:Int))=(m:Int):=by rw[IntKind.wrap_u64,← hu]; unfold unsP; omega
  simp (disch:=omega) only[push_cast,qE,ew,un_negU,en]
  refine callV en_38 (cIs (fun w' hw'=>tens_walk w' m (by omega)) ?_)
  refine sp ?_
  have hl1:=dec_len (u:=m) (by omega)
  refine addS (l:=[45]) (by simp only[qN,qO,qA]; omega) ?_
  refine sp ?_
  exact finIs (by simp) (by unfold Lib.itoa; rw[if_pos h,hm])
 ·simp (disch:=omega) only[push_cast,qE,ew]
  refine callV en_38 (cIs (fun w' hw'=>tens_walk w' u (by omega)) ?_)
  refine sp ?_
  exact finIs (by simp) (by unfold Lib.itoa; rw[if_neg h,show n.toNat=u by rw[← hu]; unfold unsP; omega])
theorem sixteens_walk:∀ (m x:Nat),x < 18446744073709551616→m≤20→∀ (w:World),Calls Tryz.prog 77 #[.int .u64 x,i64 m] w (Rets w (Is (str (hexs x m))))
 | 0,x,hx,_,w=>by
  refine enterT (args:=[.int .u64 x,i64 (0:Nat)]) Tryz.func77 rfl Tryz.ntmps77 (congrArg Array.toList Tryz.results77) (by kernel_rfl) (by simp) (Sy.refl w) ?_
  simp (disch:=omega) only[push_cast,qE,Int.natCast_zero]
  rw[Vc]
  first|exact finIs (by simp) rfl|(simp (disch:=omega) only[push_cast,qE,decide_true]; exact finIs (by simp) rfl)
 | m+1,x,hx,hm,w=>by
  refine enterT (args:=[.int .u64 x,i64 ((m+1:Nat):Int)]) Tryz.func77 rfl Tryz.ntmps77 (congrArg Array.toList Tryz.results77) (by kernel_rfl) (by simp) (Sy.refl w) ?_
  refine sp ?_
  rw[Vc]
  refine sp ?_
  refine cdD (fun h=>absurd h (by omega)) (fun h=>?_)
  refine sp ?_
  refine drawQT (by kernel_rfl) (by kernel_rfl) mixed (by kernel_rfl) ?_
  obtain ⟨q,hqx,hq⟩:∃ q:Nat,q=x / 16∧(x:Int) / 16=q:=⟨_,rfl,by omega⟩
  have em:IntKind.i64.wrap ((m:Int)+1 - 1)=(m:Int):=by rw[IntKind.wrap_i64]; omega
  simp (disch:=omega) only[push_cast,qE,quo16,hq,em]
  refine qcallV en_77 (qcallX_is _ (fun w' hw'=>sixteens_walk m q (by omega) (by omega) w') ?_)
  simp (disch:=omega) only[push_cast,qE,rem16]
  refine slHex (q:=x % 16) (by omega) (by rw[wu64 (by omega) (by omega)]; omega) (by omega) ?_
  refine sp ?_
  have hlen:=hexs_len m q
  refine addS (by simp only[qN,qO,qA]; omega) ?_
  refine sp ?_
  exact finIs (by simp) (by rw[hexs,hqx])
theorem escapeR_walk (w:World) (c:UInt8):Calls Tryz.prog 78 #[.int .u8 c.toNat] w (Rets w (Is (str (escP c)))):=by
 refine enterT (args:=[.int .u8 c.toNat]) Tryz.func78 rfl Tryz.ntmps78 (congrArg Array.toList Tryz.results78) (by kernel_rfl) (by simp) (Sy.refl w) ?_
 have hc:=c.toNat_lt
 have e2:IntKind.u64.wrap (c.toNat:Int)=(c.toNat:Int):=wu64 (by omega) (by omega)
 refine sp ?_
 rw[Vb]
 refine sp ?_
 repeat' (first|((first|((first|refine gT rfl ?_ ?_|refine gF rfl ?_ ?_|refine cdD ?_ ?_)<;>intro h)|((first|refine gbT rfl ?_ ?_|refine gbF rfl ?_ ?_|refine cdB ?_ ?_)<;>intro h<;>(try subst h))|refine lOa Shp.eq rfl ?_|refine lAa Shp.eq rfl rfl ?_|refine newI (fun b hb hn=>?_)|refine sXb Siz.eq rfl rfl ?_)<;>simp (disch:=omega) only[push_cast,qE])|(first|rw[Vc]|rw[Vb])<;>(try simp (disch:=omega) only[push_cast,qE]))
 all_goals first
  | (refine finIs (by simp) ?_
     unfold escP
     (repeat (first|rw[if_pos (by omega)]|rw[if_neg (by omega)]))
     done)
  | (simp (disch:=omega) only[push_cast,qE,e2]
     refine callV en_77 (cIs (fun w' hw'=>sixteens_walk 2 c.toNat (by omega) (by decide) w') ?_)
     refine sp ?_
     refine addS (l:=[92,120]) (by simp only[hexs_len,qN,qO,qA]; omega) ?_
     refine sp ?_
     refine finIs (by simp) ?_
     unfold escP
     (repeat (first|rw[if_pos (by omega)]|rw[if_neg (by omega)]))
     simp[hexs,Nat.mod_eq_of_lt (show c.toNat / 16 < 16 by omega)])
structure FrZ (w0:World) (x:Nat) (n:Int) (wb:World) (e:Env) (ds:List Deferred) (L:Own):Prop where
 hw:wb=w0
 hds:ds=[]
 o:L=[]
 h3:e 3=.int .u64 x
 h4:e 4=str (sgn n)
structure FrM (w0:World) (sg:List UInt8) (m0:Nat) (a0:Int) (m:Nat) (a:Int) (wb:World) (e:Env) (ds:List Deferred) (L:Own):Prop where
 hw:wb=w0
 hds:ds=[]
 o:L=[]
 hm:0 < m∧m < 9007199254740992
 hq:m0=m / 2 ^ twos 64 m∧a0=a+twos 64 m
 ha : -1074≤a∧a≤1100
 h4:e 4=str sg
 h6:e 6=.int .u64 m
 h7:e 7=i64 a
structure FrB (w0:World) (sg:List UInt8) (pw pt:Nat) (wb:World) (e:Env) (ds:List Deferred) (L:Own):Prop where
 hw:wb=w0
 hds:ds=[]
 o:L=[]
 hk:pw≠2047∧¬ (pw=0∧pt=0)
 h4:e 4=str sg
 h5:e 5=i64 ((max pw 1:Nat):Int)
 h6:e 6=.int .u64 ((if pw=0 then pt else pt+4503599627370496:Nat):Int)
theorem floatR_walk (w:World) (n:Int) (h1 : -9223372036854775808≤n) (h2:n < 9223372036854775808):Calls Tryz.prog 39 #[i64 n] w (Rets w (Is (str (floatT n)))):=by
 refine enterT (args:=[i64 n]) Tryz.func39 rfl Tryz.ntmps39 (congrArg Array.toList Tryz.results39) (by kernel_rfl) (by simp) (Sy.refl w) ?_
 obtain ⟨m1,m2,m3⟩:=mag_uns n h1 h2
 have hut:(unsP n) < 18446744073709551616:=by unfold unsP; omega
 have hT:floatT n=sgn n++floatU (magU n):=by unfold floatT sgn; split<;>rfl
 have hsg:(sgn n).length≤1:=by unfold sgn; split<;>simp
 obtain ⟨pw,hpw⟩:∃ pw,magU n / 4503599627370496=pw:=⟨_,rfl⟩
 obtain ⟨pt,hpt⟩:∃ pt,magU n % 4503599627370496=pt:=⟨_,rfl⟩
 obtain ⟨u,hu⟩:∃ u,unsP n=u:=⟨_,rfl⟩
 have ew:IntKind.u64.wrap n=(u:Int):=by rw[wrapU n h1 h2,hu]
 have e1:(u:Int) / 4503599627370496 % 2048=(pw:Int):=by omega
 have e2:(u:Int) % 4503599627370496=(pt:Int):=by omega
 have hptl:pt < 4503599627370496:=by omega
 have hpwl:pw≤2047:=by omega
 simp (disch:=omega) only[push_cast,qE,ew]
 refine cutV (FrZ w u n) ?_ ?_
 ·rw[Vc]
  refine sp ?_
  refine cdD (fun h=>?_) (fun h=>?_)
  ·refine sp ?_
   exact ⟨rfl,rfl,rfl,rfl,congrArg str (show [45]=sgn n by unfold sgn; rw[if_pos h])⟩
  ·refine sp ?_
   exact ⟨rfl,rfl,rfl,rfl,congrArg str (show []=sgn n by unfold sgn; rw[if_neg h])⟩
 rintro wb e ds L ⟨rfl,rfl,rfl,h3,h4⟩
 have hL:∀ p∈([]:Own),wb.heap.size≤p.1:=by simp
 simp (disch:=omega) only[push_cast,qE,h3,shr52,and2047,and52,e1,e2]
 refine forget (fun e=>e 4=str (sgn n)∧e 5=i64 pw∧e 6=.int .u64 pt) ⟨h4,rfl,rfl⟩ ?_
 clear h3 h4 e
 rintro e ⟨h4,h5,h6⟩
 refine cutV (FrB wb (sgn n) pw pt) ?_ ?_
 ·rw[Vb]
  simp (disch:=omega) only[push_cast,qE,h5,h6]
  refine gT rfl (fun hA=>?_) (fun hA=>?_)
  ·have fu:floatU (magU n)=if pt=0 then [105,110,102] else [110,97,110]++hexs pt 13:=by unfold floatU; rw[hpw,hpt,if_pos (by omega)]
   simp (disch:=omega) only[push_cast,qE,h5,h6]
   rw[Vc]
   simp (disch:=omega) only[push_cast,qE,h4,h5,h6]
   refine cdD (fun hB=>?_) (fun hB=>?_)
   ·simp (disch:=omega) only[push_cast,qE,h4]
    refine addS (m:=[105,110,102]) (by simp only[qN,qO,qA]; omega) ?_
    refine sp ?_
    exact finIs hL (by rw[hT,fu,if_pos (by omega)])
   simp (disch:=omega) only[push_cast,qE,h5]
   rw[Vc]
   simp (disch:=omega) only[push_cast,qE,h5]
   refine cdD (fun _=>?_) (fun h=>absurd hA h)
   simp (disch:=omega) only[push_cast,qE,h4,h6]
   refine addS (m:=[110,97,110]) (by simp only[qN,qO,qA]; omega) ?_
   simp (disch:=omega) only[push_cast,qE,h6]
   refine callV en_77 (cIs (fun w' hw'=>sixteens_walk 13 pt (by omega) (by decide) w') ?_)
   refine sp ?_
   have hlen:=hexs_len 13 pt
   refine addS (by simp only[qN,qO,qA]; omega) ?_
   refine sp ?_
   exact finIs hL (by rw[hT,fu,if_neg (by omega),List.append_assoc])
  ·simp (disch:=omega) only[push_cast,qE,h5,h6]
   rw[Vc]
   simp (disch:=omega) only[push_cast,qE,h5,h6]
   rw[Vc]
   simp (disch:=omega) only[push_cast,qE,h5,h6]
   refine cdD (fun h=>absurd h hA) (fun _=>?_)
   simp (disch:=omega) only[push_cast,qE,h5,h6]
   refine gT rfl (fun hB=>?_) (fun hB=>?_)
   ·simp (disch:=omega) only[push_cast,qE,h5,h6]
    rw[Vc]
    simp (disch:=omega) only[push_cast,qE,h4,h5,h6]
    refine cdD (fun hC=>?_) (fun hC=>?_)
    ·simp (disch:=omega) only[push_cast,qE,h4]
     refine addS (m:=[48,112,48]) (by simp only[qN,qO,qA]; omega) ?_
     refine sp ?_
     exact finIs hL (by rw[hT]; unfold floatU; rw[hpw,if_neg (by omega),if_pos (by omega)])
    simp (disch:=omega) only[push_cast,qE,h5]
    rw[Vc]
    simp (disch:=omega) only[push_cast,qE,h5]
    refine cdD (fun _=>?_) (fun h=>absurd hB h)
    simp (disch:=omega) only[push_cast,qE,h5]
    exact ⟨rfl,rfl,rfl,⟨by omega,by omega⟩,h4,by simp only[upd]; first|rfl|exact congrArg i64 (by omega),by rw[if_pos (by omega)]; exact h6⟩
   ·simp (disch:=omega) only[push_cast,qE,h5,h6]
    rw[Vc]
    simp (disch:=omega) only[push_cast,qE,h4,h5,h6]
    rw[Vc]
    simp (disch:=omega) only[push_cast,qE,h5]
    refine cdD (fun h=>absurd h hB) (fun _=>?_)
    have e3:IntKind.u64.wrap ((pt:Int)+4503599627370496)=(pt:Int)+4503599627370496:=wu64 (by omega) (by omega)
    simp (disch:=omega) only[push_cast,qE,h5,h6,e3]
    exact ⟨rfl,rfl,rfl,⟨by omega,by omega⟩,h4,h5.trans (congrArg i64 (by omega)),by rw[if_neg (by omega)]; simp only[upd]; first|rfl|exact congrArg (Value.int .u64) (by omega)⟩
 ·clear h4 h5 h6 e
  rintro wb e ds L ⟨rfl,rfl,rfl,⟨k1,k2⟩,h4,h5,h6⟩
  have hlenT:=floatU_len m3
  have hlm:fracM (magU n)=if pw=0 then pt else pt+4503599627370496:=by unfold fracM; rw[hpw,hpt]
  obtain ⟨pm,hpm⟩:∃ pm:Nat,max pw 1=pm:=⟨_,rfl⟩
  have hle:expE (magU n)=(pm:Int) - 1075:=by unfold expE; rw[hpw,hpm]
  have hx0:0 < magU n:=by omega
  have hxp:magU n / 4503599627370496 < 2047:=by omega
  obtain ⟨hfin,_⟩:=bits_forth hx0 hxp
  have hfu:floatU (magU n)=finT (oddM (magU n)) (oddE (magU n)):=by unfold floatU; rw[if_neg (by omega),if_neg (by omega)]
  have hf0:0 < fracM (magU n)∧fracM (magU n) < 9007199254740992:=by rw[hlm]; split<;>omega
  rw[hpm] at h5
  simp (disch:=omega) only[push_cast,qE,h5]
  rw[Vb]
  simp (disch:=omega) only[push_cast,qE,h5]
  refine loopW (G:=Nat×Int) (fun g=>FrM wb (sgn n) (oddM (magU n)) (oddE (magU n)) g.1 g.2) (fun g=>g.1) (fracM (magU n),expE (magU n)) _ (fun w hw=>hw) (by kernel_rfl) ⟨rfl,rfl,rfl,hf0,⟨rfl,rfl⟩,by rw[hle]; simp only; omega,h4,by rw[hlm]; exact h6,by rw[hle]; first|rfl|exact congrArg i64 (by omega)⟩ ?_
  clear h4 h5 h6 e
  rintro ⟨m,a⟩ wb e ds L ⟨rfl,rfl,rfl,⟨c1,c2⟩,⟨q1,q2⟩,⟨b1,b2⟩,h4,h6,h7⟩
  simp only at c1 c2 q1 q2 b1 b2 h6 h7
  simp (disch:=omega) only[push_cast,qE,h6,rem2]
  rw[Vc]
  simp (disch:=omega) only[push_cast,qE,h6]
  refine cdD (fun hev=>?_) (fun hodd=>?_)
  ·simp (disch:=omega) only[push_cast,qE,h6]
   rw[Vb]
   simp (disch:=omega) only[push_cast,qE,h6,h7,quo2]
   obtain ⟨t1,t2,t3⟩:=twos_spec 64 m c1 (by have:(2:Nat) ^ 64=18446744073709551616:=rfl; omega)
   have ht:twos 64 m=twos 63 (m / 2)+1:=by rw[twos,if_pos (by omega)]
   have ht2:twos 64 (m / 2)=twos 63 (m / 2):=by
    obtain ⟨r1,r2,r3⟩:=twos_spec 63 (m / 2) (by omega) (by have:(2:Nat) ^ 63=9223372036854775808:=rfl; omega)
    conv=>lhs; rw[r1]
    exact twos_mul _ 64 _ r2 (by omega)
   have hab:a+1≤1100:=by have:=hfin.hi; have:=hfin.len; omega
   refine ⟨(m / 2,a+1),_,fun w hw=>hw,⟨rfl,rfl,rfl,⟨by simp only; omega,by simp only; omega⟩,⟨?_,?_⟩,⟨by simp only; omega,hab⟩,h4,?_,?_⟩,by simp only; omega⟩
   ·rw[q1,ht,ht2,Nat.pow_succ,Nat.mul_comm,← Nat.div_div_eq_div_mul]
   ·rw[q2,ht,ht2]; push_cast; omega
   ·simp only[upd]; first|rfl|exact congrArg (Value.int .u64) (by omega)
   ·simp only[upd]; first|rfl|exact congrArg i64 (by omega)
  ·have hm:oddM (magU n)=m:=by rw[q1,twos_odd (by omega),Nat.pow_zero,Nat.div_one]
   have ha:oddE (magU n)=a:=by rw[q2,twos_odd (by omega)]; simp
   have hl1:=dec_len (u:=m) (by omega)
   have hl2:=itoa_len (n:=a) (by omega) (by omega)
   simp (disch:=omega) only[push_cast,qE,h4,h6]
   refine callV en_38 (cIs (fun w' hw'=>tens_walk w' m (by omega)) ?_)
   simp (disch:=omega) only[push_cast,qE,h4]
   refine addS (l:=sgn n++Lib.decDigits m) (m:=[112]) (by simp only[qN,qO,qA]; omega) ?_
   simp (disch:=omega) only[push_cast,qE,h7]
   refine callV en_43 (cIs (fun w' hw'=>wholeR_walk w' a (by omega) (by omega)) ?_)
   refine sp ?_
   refine addS (by simp only[qN,qO,qA]; omega) ?_
   refine sp ?_
   exact finIs hL (by rw[hT,hfu,hm,ha]; unfold finT; simp)
structure QrI (w0:World) (pre s:List UInt8) (F:UInt8→List UInt8) (i:Nat) (wb:World) (e:Env) (ds:List Deferred) (L:Own):Prop where
 hw:wb=w0
 hds:ds=[]
 o:RowO w0 5 1 L [] (e 3) (pre++(s.take i).flatMap F).length (bytesV (pre++(s.take i).flatMap F))
 hi:i≤s.length
 h0:e 0=str s
 h4:e 4=i64 i
theorem flat_take {F:UInt8→List UInt8} (s:List UInt8) (i:Nat) (c:UInt8) (hc:s[i]?=some c):(s.take (i+1)).flatMap F=(s.take i).flatMap F++F c:=by rw[List.take_add_one,hc,List.flatMap_append]; simp
theorem flat_len {F:UInt8→List UInt8} {k:Nat} (hF:∀ c,(F c).length≤k):∀ s:List UInt8,(s.flatMap F).length≤k * s.length
 | []=>by simp
 | c::s=>by
  have h1:=hF c
  have h2:=flat_len hF s
  rw[List.flatMap_cons,qA,qN,Nat.mul_succ]
  omega
theorem quotedR_walk (w:World) (s:List UInt8) (hs:s.length≤16777216):Calls Tryz.prog 40 #[str s] w (Rets w (Is (str (textT s)))):=by
 refine enterT (args:=[str s]) Tryz.func40 rfl Tryz.ntmps40 (congrArg Array.toList Tryz.results40) (by kernel_rfl) (by simp) (Sy.refl w) ?_
 refine sp ?_
 refine makeRowX .i64 .i64 un_54 infoU8 (n:=s.length+2) (by omega) (by omega) (by omega) (fun v0 L0 hro0 _=>?_)
 refine sp ?_
 refine bs_54_1 (newI fun b9 hb9 hn9=>?_)
 refine sp ?_
 refine appendB [34] un_54 infoU8 hro0 hb9 (by simp only[qN,qO]; omega) (fun v2 L2 hro2=>?_)
 refine sp ?_
 obtain ⟨L3,hro3,hs3⟩:=RowO.shrink [_] hro2 (fun p hp=>by rw[List.mem_singleton.1 hp]; exact hb9)
 rw[Vb]
 refine sp ?_
 refine loopW (G:=Nat) (QrI w [34] s charT) (fun i=>s.length - i) 0 L3 hs3 (by kernel_rfl) ⟨rfl,rfl,hro3.cast (by simp) (by simp[bytesV]),Nat.zero_le _,rfl,rfl⟩ ?_
 clear hro0 hro2 hro3 hs3
 rintro i wb e ds L ⟨rfl,rfl,hro,hi,h0,h4⟩
 obtain ⟨v3,h3⟩:∃ v3,e 3=v3:=⟨_,rfl⟩
 rw[h3] at hro
 have hfl:=flat_len (F:=charT) (k:=4) (fun c=>(char_len c).2) (s.take i)
 have htl:(s.take i).length≤s.length:=List.length_take_le' ..
 simp (disch:=omega) only[push_cast,qE,h0,h4]
 rw[Vc]
 simp (disch:=omega) only[push_cast,qE,h0,h4]
 refine cdD (fun hlt=>?_) (fun hge=>?_)
 rotate_left
 ·obtain rfl:i=s.length:=by omega
  rw[List.take_length] at hro
  simp (disch:=omega) only[push_cast,qE,h3]
  refine bs_54_1 (newI fun b8 hb8 hn8=>?_)
  simp (disch:=omega) only[push_cast,qE,h3]
  refine appendB [34] un_54 infoU8 hro hb8 (by simp only[qA,qN,qO]; rw[List.take_length] at hfl; omega) (fun v5 L5 hro5=>?_)
  refine sp ?_
  refine convS un_54 Tryz.underlying5 Tryz.underlying9 (s:=textT s) (hro5.cast rfl (by unfold textT; rw[← bytesV_append]; simp)) ?_
  refine sp ?_
  exact finIs (hro5.new (fun p hp=>by rw[List.mem_singleton.1 hp]; exact hb8)) rfl
 obtain ⟨c,hc⟩:∃ c,s[i]?=some c:=⟨_,qH (by omega)⟩
 have hget:s.getD i 0=c:=by rw[List.getD_eq_getElem?_getD,hc]; rfl
 have hnext:=flat_take (F:=charT) s i c hc
 have hcl:(charT c).length≤4:=(char_len c).2
 simp (disch:=omega) only[push_cast,qE,h0,h4]
 rw[Vb]
 simp (disch:=omega) only[push_cast,qE,h0,h4]
 rw[hget]
 refine callV en_78 (cIs (fun w' _=>escapeR_walk w' c) ?_)
 refine sp ?_
 rw[Vc]
 refine sp ?_
 refine cdD (fun hne=>?_) (fun he=>?_)
 ·have hch:charT c=escP c:=by unfold charT; rw[if_neg hne]
  have hel:=esc_len c
  simp (disch:=omega) only[push_cast,qE,h3]
  refine appendS (escP c) un_54 Tryz.underlying9 infoU8 hro (by simp only[qA,qN,qO]; omega) (fun v5 L5 hro5=>?_)
  simp (disch:=omega) only[push_cast,qE,h4]
  refine ⟨i+1,L5,fun w hw=>hw,⟨rfl,rfl,hro5.cast ?_ ?_,by omega,h0,?_⟩,by omega⟩
  ·rw[hnext,hch]; simp only[qA,qN,qO]; omega
  ·rw[hnext,hch,← bytesV_append,List.append_assoc]
  ·simp only[upd]; first|rfl|exact congrArg i64 (by omega)
 ·have he:escP c=[]:=Decidable.not_not.1 he
  have hch:charT c=[c]:=char_plain he
  simp (disch:=omega) only[push_cast,qE,h0,h3,h4]
  rw[hget]
  refine bs_54_1 (newI fun b8 hb8 hn8=>?_)
  simp (disch:=omega) only[push_cast,qE,h3]
  refine appendB [c] un_54 infoU8 hro hb8 (by simp only[qA,qN,qO]; omega) (fun v5 L5 hro5=>?_)
  obtain ⟨L6,hro6,hs6⟩:=RowO.shrink [_] hro5 (fun p hp=>by rw[List.mem_singleton.1 hp]; exact hb8)
  simp (disch:=omega) only[push_cast,qE,h4]
  refine ⟨i+1,L6,hs6,⟨rfl,rfl,hro6.cast ?_ ?_,by omega,h0,?_⟩,by omega⟩
  ·rw[hnext,hch]; simp only[qA,qN,qO]; omega
  ·rw[hnext,hch,← bytesV_append,List.append_assoc]
  ·simp only[upd]; first|rfl|exact congrArg i64 (by omega)
theorem rawR_walk (w:World) (s:List UInt8) (hs:s.length≤16777216):Calls Tryz.prog 41 #[str s] w (Rets w (Is (str (bytesT s)))):=by
 refine enterT (args:=[str s]) Tryz.func41 rfl Tryz.ntmps41 (congrArg Array.toList Tryz.results41) (by kernel_rfl) (by simp) (Sy.refl w) ?_
 refine sp ?_
 refine makeRowX .i64 .i64 un_54 infoU8 (n:=2 * s.length+3) (by omega) (by omega) (by omega) (fun v0 L0 hro0 _=>?_)
 refine sp ?_
 refine bs_54_2 (newI fun b9 hb9 hn9=>?_)
 refine sp ?_
 refine appendB [120,34] un_54 infoU8 hro0 hb9 (by simp only[qN,qO]; omega) (fun v2 L2 hro2=>?_)
 refine sp ?_
 obtain ⟨L3,hro3,hs3⟩:=RowO.shrink [_] hro2 (fun p hp=>by rw[List.mem_singleton.1 hp]; exact hb9)
 rw[Vb]
 refine sp ?_
 refine loopW (G:=Nat) (QrI w [120,34] s byteT) (fun i=>s.length - i) 0 L3 hs3 (by kernel_rfl) ⟨rfl,rfl,hro3.cast (by simp) (by simp[bytesV]),Nat.zero_le _,rfl,rfl⟩ ?_
 clear hro0 hro2 hro3 hs3
 rintro i wb e ds L ⟨rfl,rfl,hro,hi,h0,h4⟩
 obtain ⟨v3,h3⟩:∃ v3,e 3=v3:=⟨_,rfl⟩
 rw[h3] at hro
 have hfl:=flat_len (F:=byteT) (k:=2) (fun c=>Nat.le_refl _) (s.take i)
 have htl:(s.take i).length≤s.length:=List.length_take_le' ..
 simp (disch:=omega) only[push_cast,qE,h0,h4]
 rw[Vc]
 simp (disch:=omega) only[push_cast,qE,h0,h4]
 refine cdD (fun hlt=>?_) (fun hge=>?_)
 rotate_left
 ·obtain rfl:i=s.length:=by omega
  rw[List.take_length] at hro
  simp (disch:=omega) only[push_cast,qE,h3]
  refine bs_54_1 (newI fun b8 hb8 hn8=>?_)
  simp (disch:=omega) only[push_cast,qE,h3]
  refine appendB [34] un_54 infoU8 hro hb8 (by simp only[qA,qN,qO]; rw[List.take_length] at hfl; omega) (fun v5 L5 hro5=>?_)
  refine sp ?_
  refine convS un_54 Tryz.underlying5 Tryz.underlying9 (s:=bytesT s) (hro5.cast rfl (by unfold bytesT; rw[← bytesV_append]; simp)) ?_
  refine sp ?_
  exact finIs (hro5.new (fun p hp=>by rw[List.mem_singleton.1 hp]; exact hb8)) rfl
 obtain ⟨c,hc⟩:∃ c,s[i]?=some c:=⟨_,qH (by omega)⟩
 have hget:s.getD i 0=c:=by rw[List.getD_eq_getElem?_getD,hc]; rfl
 have hnext:=flat_take (F:=byteT) s i c hc
 have hcl:=c.toNat_lt
 simp (disch:=omega) only[push_cast,qE,h0,h4]
 rw[Vb]
 simp (disch:=omega) only[push_cast,qE,h0,h4]
 refine freeT [0,1,2,3,4,5,6,7,8,9,10] [11,12,13] [] (by kernel_rfl) mixed (by kernel_rfl) (Stab.of (List.nil_sublist _) (hro.new (by simp))) ?_
 simp (disch:=omega) only[push_cast,qE,h0,h3,h4]
 rw[hget]
 simp (disch:=omega) only[push_cast,qE,quo16b]
 refine idxHex (q:=c.toNat / 16) (by omega) (by omega) ?_
 simp (disch:=omega) only[push_cast,qE,h0,h4]
 rw[hget]
 simp (disch:=omega) only[push_cast,qE,rem16b]
 refine idxHex (q:=c.toNat % 16) (by omega) (by omega) ?_
 refine sp ?_
 refine bs_54_2 (newI fun b8 hb8 hn8=>?_)
 refine sp ?_
 refine ⟨Stab.of (List.nil_sublist _) ((nC hb8 (hro.new (by simp)))),appendB (byteT c) un_54 infoU8 hro hb8 (by have:(byteT c).length=2:=rfl; simp only[qA,qN,qO]; omega) (fun v5 L5 hro5=>?_)⟩
 simp (disch:=omega) only[push_cast,qE,h4]
 have hM9:∀ x:Obj,∀ p∈[(b8,x)],wb.heap.size≤p.1:=fun x p hp=>by rw[List.mem_singleton.1 hp]; exact hb8
 obtain ⟨L6,hro6,hs6⟩:=RowO.shrink [_] hro5 (hM9 _)
 refine ⟨Stab.of (List.nil_sublist _) (hro5.new (hM9 _)),Stab.of (List.nil_sublist _) (hro5.new (hM9 _)),i+1,L6,hs6,⟨rfl,rfl,hro6.cast ?_ ?_,by omega,h0,?_⟩,by omega⟩
 ·rw[hnext]; simp only[qA,qN,qO]; omega
 ·rw[hnext,← bytesV_append,List.append_assoc]
 ·simp only[upd]; first|rfl|exact congrArg i64 (by omega)
def itemsR (f:Fld) (T:Fld→Vl→List UInt8):Nat→List Vl→List UInt8→List UInt8
 | _,[],o=>o++[if f.k=17 then 125 else 93]
 | i,x::l,o=>if 65536 < (o++itemT f T i x).length then o++itemT f T i x else itemsR f T (i+1) l (o++itemT f T i x)
def listR (f:Fld) (T:Fld→Vl→List UInt8) (l:List Vl):List UInt8:=itemsR f T 0 l [if f.k=17 then 123 else 91]
def shownR:Nat→Fld→Vl→List UInt8
 | 0,_,_=>[]
 | d+1,f,v =>
  if v.nu=true then nullT
  else if f.k=19∨f.k=20 then (match f.sub[0]? with|some g=>shownR d g v|none=>[])
  else if f.k=12 then (if 65536 < v.tx.length then v.tx else textT v.tx)
  else if f.k=13∨f.k=14 then (if 65536 < v.tx.length then v.tx else bytesT v.tx)
  else if f.k=18 then (match f.sub[v.num.toNat]?,v.ls[0]? with|some g,some x=>g.nm++40::(shownR d g x++[41])|_,_=>[])
  else if f.k=15∨f.k=16∨f.k=17 then listR f (shownR d) v.ls
  else numT f.k v.num
theorem itemT_cut {f:Fld} {T R:Fld→Vl→List UInt8} {i:Nat} {x:Vl} (h:∀ g,f.sub[childN f i]?=some g→CutS [] (T g x) (R g x)) (o:List UInt8):CutS o (itemT f T i x) (o++itemT f R i x):=by
 unfold itemT
 rcases hg:f.sub[childN f i]? with _|g
 ·exact .inl rfl
 ·simp only
  have h1:=h g hg
  rw[← List.append_assoc,← List.append_assoc (if i=0 then [] else [44])]
  have q:=CutS.self o ((if i=0 then ([]:List UInt8) else [44])++(match f.sub[i]? with|some g=>if f.k=17 then g.nm++[58] else []|none=>[]))
  rw[← List.append_assoc o]
  refine q.trans ?_
  rcases h1 with h1|⟨h1,h2⟩
  ·rw[h1]; exact .inl rfl
  ·exact .inr ⟨by rw[qA]; omega,by rw[qA]; rw[List.nil_append] at h2; omega⟩
theorem itemsR_cut {f:Fld} {T R:Fld→Vl→List UInt8}:∀ (l:List Vl) (i:Nat) (o:List UInt8),(∀ (j:Nat) (x:Vl),l[j]?=some x→∀ g,f.sub[childN f (i+j)]?=some g→CutS [] (T g x) (R g x))→CutS o (itemsT f T i l++[if f.k=17 then 125 else 93]) (itemsR f R i l o)
 | [],i,o,h=>.inl (by rw[itemsR,itemsT]; rfl)
 | x::l,i,o,h=>by
  have h1:=itemT_cut (h 0 x rfl) o
  rw[Nat.add_zero] at h1
  rw[itemsR,itemsT]
  by_cases hb:65536 < (o++itemT f R i x).length
  ·rw[if_pos hb]
   refine .inr ⟨hb,?_⟩
   rcases h1 with h1|⟨_,h1⟩
   ·rw[h1] at hb
    simp only[qA] at hb ⊢
    omega
   ·simp only[qA] at h1 ⊢
    omega
  ·rw[if_neg hb]
   rcases h1 with h1|⟨h1,_⟩
   ·have ih:=itemsR_cut l (i+1) (o++itemT f R i x) (fun j y hj g hg=>h (j+1) y (un hj) g (by rw[← hg]; congr 2; omega))
    rw[List.append_assoc]
    exact (show CutS o (itemT f T i x) (o++itemT f R i x) from .inl h1).trans ih
   ·exact absurd h1 hb
theorem itemsR_len {f:Fld} {R:Fld→Vl→List UInt8} (hn:∀ g∈f.sub,g.nm.length≤48):∀ (l:List Vl) (i:Nat) (o:List UInt8),(∀ (j:Nat) (x:Vl),l[j]?=some x→(match f.sub[childN f (i+j)]? with|some g=>R g x|none=>([]:List UInt8)).length+50≤10 * wV x)→(itemsR f R i l o).length≤o.length+10 * wL l+1
 | [],i,o,h=>by rw[itemsR,qA]; simp
 | x::l,i,o,h=>by
  have h1:=h 0 x rfl
  simp only[Nat.add_zero] at h1
  have h3:(itemT f R i x).length≤10 * wV x:=by
   unfold itemT
   simp only[qA]
   have q1:(if i=0 then ([]:List UInt8) else [44]).length≤1:=by split<;>simp
   have q2:∀ g∈f.sub,(if f.k=17 then g.nm++[58] else []).length≤49:=fun g hg=>by
    have:=hn g hg
    split
    ·rw[qA,List.length_singleton]; omega
    ·simp
   rcases hgi:f.sub[i]? with _|g'<;>rcases hgc:f.sub[childN f i]? with _|k<;>rw[hgc] at h1<;>simp only[qO] at h1 ⊢
   ·omega
   ·omega
   ·have:=q2 g' (List.mem_of_getElem? hgi); omega
   ·have:=q2 g' (List.mem_of_getElem? hgi); omega
  have h2:=itemsR_len hn l (i+1) (o++itemT f R i x) (fun j y hj=>by rw[show i+1+j=i+(j+1) by omega]; exact h (j+1) y (un hj))
  rw[itemsR,wL]
  rw[qA] at h2
  split
  ·rw[qA]; omega
  ·omega
theorem shownR_cut:∀ (d:Nat) (f:Fld) (v:Vl) (ind:Bool),okT d ind f→fitD d f v=true→CutS [] (showV d f v) (shownR d f v)
 | 0,f,v,ind,h,_=>h.elim
 | d+1,f,v,ind,h,hf=>by
  rw[showV,shownR]
  by_cases hnu:v.nu=true
  ·rw[if_pos hnu,if_pos hnu]; exact .inl rfl
  have hnf:v.nu=false:=by simpa using hnu
  rw[if_neg hnu,if_neg hnu]
  by_cases hA:f.k=19∨f.k=20
  ·rw[if_pos hA,if_pos hA]
   rcases hg:f.sub[0]? with _|g
   ·exact .inl rfl
   ·exact shownR_cut d g v _ (h.2 g (List.mem_of_getElem? hg)) (fit_wrap hnf hA hg hf)
  rw[if_neg hA,if_neg hA]
  by_cases h12:f.k=12
  ·rw[if_pos h12,if_pos h12]
   split
   ·rename_i hb
    refine .inr ⟨hb,?_⟩
    have hsl:v.tx.length≤(v.tx.flatMap charT).length:=by
     clear hb
     induction v.tx with
     | nil=>simp
     | cons c l ih=>rw[List.flatMap_cons,qA,qN]; have:=(char_len c).1; omega
    unfold textT
    simp only[List.nil_append,qN,qA]
    omega
   ·exact .inl rfl
  rw[if_neg h12,if_neg h12]
  by_cases h13:f.k=13∨f.k=14
  ·rw[if_pos h13,if_pos h13]
   split
   ·rename_i hb
    refine .inr ⟨hb,?_⟩
    have hsl:v.tx.length≤(v.tx.flatMap byteT).length:=by
     clear hb
     induction v.tx with
     | nil=>simp
     | cons c l ih=>rw[List.flatMap_cons,qA,qN]; have:(byteT c).length=2:=rfl; omega
    unfold bytesT
    simp only[List.nil_append,qN,qA]
    omega
   ·exact .inl rfl
  rw[if_neg h13,if_neg h13]
  by_cases h18:f.k=18
  ·rw[if_pos h18,if_pos h18]
   obtain ⟨g,z,hg,hz,hl,_,_,hgz⟩:=fit_union hnf h18 hf
   rw[hg,hz]
   have h1:=shownR_cut d g z _ (h.2 g (List.mem_of_getElem? hg)) hgz
   simp only
   rcases h1 with h1|⟨h1,h2⟩
   ·rw[h1]; exact .inl rfl
   ·rw[List.nil_append] at h2
    refine .inr ⟨?_,?_⟩<;>simp only[List.nil_append,qN,qA]<;>omega
  rw[if_neg h18,if_neg h18]
  by_cases h15:f.k=15∨f.k=16∨f.k=17
  ·rw[if_pos h15,if_pos h15]
   have h1:=itemsR_cut (f:=f) (T:=showV d) (R:=shownR d) v.ls 0 [if f.k=17 then 123 else 91] (fun j x hj g hg=>by
    obtain ⟨g',hg',hgx⟩:=(fit_list hnf h15 hf).2.2.2.2 j x hj
    rw[Nat.zero_add] at hg
    obtain rfl:g'=g:=Option.some.inj (hg'.symm.trans hg)
    exact shownR_cut d g' x _ (h.2 g' (List.mem_of_getElem? hg)) hgx)
   unfold listR
   rcases h1 with h1|⟨h1,h2⟩
   ·exact .inl h1
   ·exact .inr ⟨h1,h2⟩
  rw[if_neg h15,if_neg h15]
  exact .inl rfl
theorem shownR_len:∀ (d:Nat) (f:Fld) (v:Vl) (ind:Bool),okT d ind f→fitD d f v=true→rngD d v→(shownR d f v).length+50≤10 * wV v
 | 0,f,v,ind,h,_,_=>h.elim
 | d+1,f,v,ind,h,hf,hr=>by
  have hw:=wV_pos v
  have hwe:=wV_eq v
  have hnm:∀ g∈f.sub,g.nm.length≤48:=fun g hg=>((h.2 g hg).name).2.2
  have hrv:=hr.1
  rw[shownR]
  by_cases hnu:v.nu=true
  ·rw[if_pos hnu]
   simp only[nullT,qN,qO]
   omega
  have hnf:v.nu=false:=by simpa using hnu
  rw[if_neg hnu]
  by_cases hA:f.k=19∨f.k=20
  ·rw[if_pos hA]
   have hlen:1≤f.sub.length:=by
    have h1:=h.1.1.2.2.2.1
    rcases hA with hk|hk<;>rw[hk] at h1<;>simp[leastK] at h1<;>omega
   obtain ⟨g,hg⟩:∃ g,f.sub[0]?=some g:=⟨_,qH (by omega)⟩
   rw[hg]
   exact shownR_len d g v _ (h.2 g (List.mem_of_getElem? hg)) (fit_wrap hnf hA hg hf) (rng_down d v hr)
  rw[if_neg hA]
  by_cases h12:f.k=12
  ·rw[if_pos h12]
   have:=textT_len v.tx
   split<;>omega
  rw[if_neg h12]
  by_cases h13:f.k=13∨f.k=14
  ·rw[if_pos h13]
   have:=bytesT_len v.tx
   split<;>omega
  rw[if_neg h13]
  by_cases h18:f.k=18
  ·rw[if_pos h18]
   obtain ⟨g,z,hg,hz,hl,_,_,hgz⟩:=fit_union hnf h18 hf
   rw[hg,hz]
   have h1:=shownR_len d g z _ (h.2 g (List.mem_of_getElem? hg)) hgz (hr.2 z (List.mem_of_getElem? hz))
   have h2:=hnm g (List.mem_of_getElem? hg)
   have h3:=wL_mem (List.mem_of_getElem? hz)
   simp only[qA,qN,qO]
   omega
  rw[if_neg h18]
  by_cases h15:f.k=15∨f.k=16∨f.k=17
  ·rw[if_pos h15]
   have h1:=itemsR_len (f:=f) (R:=shownR d) hnm v.ls 0 [if f.k=17 then 123 else 91] (fun j x hj=>by
    obtain ⟨g,hg,hgx⟩:=(fit_list hnf h15 hf).2.2.2.2 j x hj
    rw[Nat.zero_add,hg]
    exact shownR_len d g x _ (h.2 g (List.mem_of_getElem? hg)) hgx (hr.2 x (List.mem_of_getElem? hj)))
   unfold listR
   simp only[qN,qO] at h1
   omega
  rw[if_neg h15]
  have:=numT_len f.k hrv.1 hrv.2
  omega
end Go.Proofs.YtilejcofleeeiaaGreatDoor
