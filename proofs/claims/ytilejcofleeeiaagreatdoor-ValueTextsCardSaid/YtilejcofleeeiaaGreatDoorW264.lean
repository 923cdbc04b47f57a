/- YtilejcofleeeiaaGreatDoor: walks, part 264: the reference's reader: floating-point numbers. -/
import Derived.Test.YtilejcofleeeiaaGreatDoorW263
import Derived.Test.YtilejcofleeeiaaGreatDoorW260
namespace Go.Proofs.YtilejcofleeeiaaGreatDoor
open Go Go.K
open Nat renaming reduceEqDiff → qE
set_option maxRecDepth 100000
set_option linter.unusedVariables false
set_option linter.unusedSimpArgs false
set_option maxHeartbeats 4000000
theorem orI_min {n:Int} (h0:0≤n) (h:n < 9223372036854775808):bits .or .i64 n (-9223372036854775808)=n - 9223372036854775808:=by
 obtain ⟨n,rfl⟩:=Int.eq_ofNat_of_zero_le h0
 show IntKind.i64.wrap ((BitVec.ofInt 64 (n:Int) ||| BitVec.ofInt 64 (-9223372036854775808)).toNat:Int)=_
 rw[show BitVec.ofInt 64 (-9223372036854775808)=BitVec.ofInt 64 ((9223372036854775808:Nat):Int) from by decide]
 rw[BitVec.toNat_or,ofInt_u64 n (by omega),ofInt_u64 9223372036854775808 (by omega),Nat.or_comm,nat_join 63 9223372036854775808 n (by decide) (by have:(2:Nat) ^ 63=9223372036854775808:=rfl; omega),IntKind.wrap_i64]
 omega
theorem orGI {P:Program} {K:Value→Prop} (t:TypeId) (x y:Operand) (a b:Int):PureX P (binV .or t x y (i64 a) (i64 b)) (tag K)=K (i64 (bits .or .i64 a b)):=px (fun w=>rfl) K
theorem split_p:∀ {u v x y:List UInt8},(112:UInt8)∉u→(112:UInt8)∉v→u++112::x=v++112::y→u=v∧x=y
 | [],[],x,y,_,_,e=>⟨rfl,(List.cons.inj e).2⟩
 | [],c::v,x,y,_,hv,e=>absurd (List.Mem.head v) (by rw[(List.cons.inj e).1] at hv; exact hv)
 | c::u,[],x,y,hu,_,e=>absurd (List.Mem.head u) (by rw[← (List.cons.inj e).1] at hu; exact hu)
 | c::u,d::v,x,y,hu,hv,e=>by
  obtain ⟨e1,e2⟩:=List.cons.inj e
  obtain ⟨h1,h2⟩:=split_p (fun h=>hu (.tail _ h)) (fun h=>hv (.tail _ h)) e2
  exact ⟨by rw[e1,h1],h2⟩
theorem dec_nop (m:Nat):(112:UInt8)∉Lib.decDigits m:=fun h=>by
 have:=(dec_all m).1 _ h
 exact absurd this (by decide)
theorem hex_some:∀ (m x:Nat) (c:UInt8),c∈hexs x m→∃ d,digV c=some d
 | 0,x,c,h=>by cases h
 | m+1,x,c,h=>by
  rw[hexs] at h
  rcases List.mem_append.1 h with h|h
  ·exact hex_some m _ c h
  ·rw[List.mem_singleton.1 h]
   have:∀ j:Fin 16,digV (hexC j.val)=some j.val:=by decide +kernel
   exact ⟨_,this ⟨x % 16,by omega⟩⟩
theorem dig_hex {c:UInt8} {d:Nat} (h:digV c=some d):hexC d=c:=by
 have:∀ k:Fin 256,(match digV (UInt8.ofNat k.val) with|some d=>decide (hexC d=UInt8.ofNat k.val)|none=>true)=true:=by decide +kernel
 have h2:=this ⟨c.toNat,c.toNat_lt⟩
 simp only[UInt8.ofNat_toNat,h] at h2
 exact of_decide_eq_true h2
theorem fl_cases {x:Nat} (hx:x < 9223372036854775808):(floatU x=[105,110,102]∧x=9218868437227405312)∨(∃ y,0 < y∧y < 4503599627370496∧x=9218868437227405312+y∧floatU x=[110,97,110]++hexs y 13)∨(∃ m a,floatU x=finT m a∧m < 9007199254740992∧((m=0∧a=0∧x=0)∨(FinOK m a∧x=bitsOf m a))):=by
 unfold floatU
 by_cases h1:x / 4503599627370496=2047
 ·rw[if_pos h1]
  by_cases h2:x % 4503599627370496=0
  ·rw[if_pos h2]; exact .inl ⟨rfl,by omega⟩
  ·rw[if_neg h2]; exact .inr (.inl ⟨_,by omega,by omega,by omega,rfl⟩)
 ·rw[if_neg h1]
  by_cases h0:x=0
  ·rw[if_pos h0]; exact .inr (.inr ⟨0,0,zero_finT.symm,by decide,.inl ⟨rfl,rfl,h0⟩⟩)
  ·rw[if_neg h0]
   obtain ⟨q1,q2⟩:=bits_forth (x:=x) (by omega) (by omega)
   exact .inr (.inr ⟨_,_,rfl,q1.lt,.inr ⟨q1,q2.symm⟩⟩)
theorem fl_pos {n:Int} (h0:0≤n) (h1:n < 9223372036854775808):floatT n=floatU n.toNat:=by
 unfold floatT magU
 rw[if_neg (by omega),show (n % 9223372036854775808)=n by omega]
theorem fl_head {n:Int} {row:List UInt8} (hne:(row.getD 0 0).toNat≠45) (h1 : -9223372036854775808≤n) (e:floatT n=row):0≤n:=by
 unfold floatT at e
 by_cases h:n < 0
 ·rw[if_pos h] at e
  subst e
  exact absurd rfl hne
 ·omega
theorem fl_fin {m:Nat} {a:Int} {x:Nat} (h:(m=0∧a=0∧x=0)∨(FinOK m a∧x=bitsOf m a)):x < 9223372036854775808∧floatU x=finT m a:=by
 rcases h with ⟨rfl,rfl,rfl⟩|⟨h,rfl⟩
 ·exact ⟨by decide,by rw[zero_finT]; rfl⟩
 ·obtain ⟨q1,q2,q3,q4,q5⟩:=bits_back h
  refine ⟨q3,?_⟩
  unfold floatU
  rw[if_neg (by omega),if_neg (by omega),q4,q5]
structure FnI (w0:World) (row:List UInt8) (j:Nat) (wb:World) (e:Env) (ds:List Deferred) (L:Own):Prop where
 hw:wb=w0
 hds:ds=[]
 o:L=[]
 hj:3≤j∧j≤16
 h0:e 0=str row
 h7:e 7=i64 j
 hx:∃ x:Nat,e 6=i64 x∧x < 16 ^ (j - 3)∧hexs x (j - 3)=(row.take j).drop 3
structure FpI (w0:World) (row:List UInt8) (i:Nat) (wb:World) (e:Env) (ds:List Deferred) (L:Own):Prop where
 hw:wb=w0
 hds:ds=[]
 o:L=[]
 hi:i≤row.length
 hp:(112:UInt8)∉row.take i
 h0:e 0=str row
 h9:e 9=i64 i
theorem FlS.none {row:List UInt8} (n:Int) (h:∀ m,-9223372036854775808≤m∧m < 9223372036854775808→floatT m≠row):FlS row (.tuple #[i64 n,.bool false]):=⟨n,false,rfl,fun h=>absurd h (by decide),fun _=>h⟩
theorem FlS.some {row:List UInt8} {n:Int} (h1 : -9223372036854775808≤n∧n < 9223372036854775808) (h2:floatT n=row):FlS row (.tuple #[i64 n,.bool true]):=⟨n,true,rfl,fun _=>⟨h1,h2⟩,fun h=>absurd h (by decide)⟩
structure FaI (w0:World) (row:List UInt8) (k:Nat) (b:Bool) (wb:World) (e:Env) (ds:List Deferred) (L:Own):Prop where
 hw:wb=w0
 hds:ds=[]
 o:L=[]
 h0:e 0=str row
 hb:e k=.bool b
structure FdI (w0:World) (row:List UInt8) (pr:Prop) (wb:World) (e:Env) (ds:List Deferred) (L:Own):Prop where
 hw:wb=w0
 hds:ds=[]
 o:L=[]
 h0:e 0=str row
 hpr:pr
theorem nan_row {x:Nat} {row:List UInt8} (h16:row.length=16) (h3:row.take 3=[110,97,110]) (hx:hexs x 13=row.drop 3):row=[110,97,110]++hexs x 13:=by
 rw[hx,← h3,List.take_append_drop]
theorem readFloat_rec:∀ (len:Nat) (row:List UInt8),row.length < len→row.length≤65536→∀ (w:World),Calls Tryz.prog 92 #[str row] w (Rets w fun v _=>FlS row v)
 | 0,row,hl,hs,w=>absurd hl (Nat.not_lt_zero _)
 | len+1,row,hl,hs,w=>by
  refine enterT (args:=[str row]) Tryz.func92 rfl Tryz.ntmps92 (congrArg Array.toList Tryz.results92) (by kernel_rfl) (by simp) (Sy.refl w) ?_
  rw[V_seq]
  refine cutV (fun wb e ds L=>wb=w∧ds=[]∧L=[]∧e 0=str row) ?_ ?_
  ·simp (disch:=omega) only[push_cast,Nat.reduceEqDiff]
  rintro wb e ds L ⟨rfl,rfl,rfl,h0⟩
  rw[V_seq,V_seq]
  refine cutV (FaI wb row 23 (decide (0 < row.length∧(row.getD 0 0).toNat=45))) ?_ ?_
  ·simp (disch:=omega) only[push_cast,qE,h0]
   refine gT rfl (fun hlt=>?_) (fun hge=>?_)
   ·simp (disch:=omega) only[push_cast,qE,h0]
    exact ⟨rfl,rfl,rfl,h0,is_d (by omega)⟩
   ·simp (disch:=omega) only[push_cast,qE,h0]
    exact ⟨rfl,rfl,rfl,h0,is_f (by omega)⟩
  clear h0 e
  rintro wb e ds L ⟨rfl,rfl,rfl,h0,h23⟩
  rw[Vc]
  simp (disch:=omega) only[push_cast,qE,h0,h23]
  refine cdD (fun h45=>?_) (fun hno=>?_)
  ·have hcons:row=45::row.drop 1:=by
    have h1:=cons_drop (getD_at (s:=row) (i:=0) h45.1)
    rw[List.drop_zero,show row.getD 0 0=45 from UInt8.toNat_inj.1 h45.2] at h1
    exact h1
   have hdl:(row.drop 1).length=row.length - 1:=List.length_drop ..
   have hneg:∀ m,-9223372036854775808≤m∧m < 9223372036854775808→floatT m=row→m < 0∧row.drop 1=floatU (magU m):=fun m hm e=>by
    unfold floatT at e
    by_cases h:m < 0
    ·rw[if_pos h] at e
     refine ⟨h,?_⟩
     rw[← e]; rfl
    ·rw[if_neg h] at e
     obtain ⟨c,r,q1,q2⟩:=floatU_head (magU m)
     rw[e,hcons] at q1
     exact absurd (List.cons.inj q1).1.symm q2
   simp (disch:=omega) only[push_cast,qE,h0]
   refine callV en_92 (callX_ex (fun w' hw'=>readFloat_rec len (row.drop 1) (by omega) (by omega) w') (fun v hv=>?_))
   obtain ⟨n,b,rfl,k1,k2⟩:=hv
   simp (disch:=omega) only[push_cast,qE,h0]
   refine drawQT (by kernel_rfl) (by kernel_rfl) mixed (by kernel_rfl) ?_
   simp (disch:=omega) only[push_cast,qE,h0,orGI]
   refine gbT rfl (fun hb=>?_) (fun hb=>?_)
   rotate_left
   ·subst hb
    simp (disch:=omega) only[push_cast,qE,h0]
    refine finEx (by simp) fun w' _=>FlS.none _ fun m hm e=>?_
    obtain ⟨q1,q2⟩:=hneg m hm e
    refine k2 rfl (magU m:Int) ⟨by omega,by unfold magU; omega⟩ ?_
    rw[fl_pos (by omega) (by unfold magU; omega),Int.toNat_natCast]
    exact q2.symm
   subst hb
   obtain ⟨hn,hT⟩:=k1 rfl
   simp (disch:=omega) only[push_cast,qE,h0]
   refine gT rfl (fun hn0=>?_) (fun hn0=>?_)
   rotate_left
   ·simp (disch:=omega) only[push_cast,qE,h0]
    refine finEx (by simp) fun w' _=>FlS.none _ fun m hm e=>?_
    obtain ⟨q1,q2⟩:=hneg m hm e
    obtain ⟨c,r,q3,q4⟩:=floatU_head (magU m)
    unfold floatT at hT
    rw[if_pos (by omega),q2,q3] at hT
    exact q4 (List.cons.inj hT).1.symm
   rw[fl_pos hn0 hn.2] at hT
   obtain ⟨c,r,q3,q4⟩:=floatU_head n.toNat
   rw[hT] at q3
   have hl1:1 < row.length:=by
    have:=congrArg List.length q3
    rw[hdl,List.length_cons] at this
    omega
   have hc1:(row.getD 1 0).toNat≠45:=by
    rw[hcons,q3]
    show c.toNat≠45
    exact fun h=>q4 (UInt8.toNat_inj.1 h)
   simp (disch:=omega) only[push_cast,qE,h0]
   refine finEx (by simp) fun w' _=>?_
   rw[decide_eq_true (show ¬ ((row.getD 1 0).toNat:Int)=45 by omega),orI_min hn0 hn.2]
   refine FlS.some (by omega) ?_
   unfold floatT magU
   rw[if_pos (by omega),show (n - 9223372036854775808) % 9223372036854775808=n by omega,hT]
   exact hcons.symm
  have hne:(row.getD 0 0).toNat≠45:=fun h=>by
   rcases Nat.eq_zero_or_pos row.length with h0|h0
   ·rw[List.eq_nil_of_length_eq_zero h0] at h; exact absurd h (by decide)
   ·exact hno ⟨h0,h⟩
  have hpos:∀ m,-9223372036854775808≤m∧m < 9223372036854775808→floatT m=row→m.toNat < 9223372036854775808∧floatU m.toNat=row:=fun m hm e=>by
   have h:=fl_head hne hm.1 e
   rw[fl_pos h hm.2] at e
   exact ⟨by omega,e⟩
  simp (disch:=omega) only[push_cast,qE,h0]
  refine cutV (FdI wb row (row≠[105,110,102])) ?_ ?_
  ·rw[Vc]
   simp (disch:=omega) only[push_cast,qE,h0]
   refine cdD (fun hinf=>?_) (fun hninf=>?_)
   ·simp (disch:=omega) only[push_cast,qE,h0]
    refine finEx (by simp) fun w' _=>FlS.some (by decide) ?_
    rw[fl_pos (by decide) (by decide),hinf]
    unfold floatU
    rw[if_pos (by decide),if_pos (by decide)]
   ·simp (disch:=omega) only[push_cast,qE,h0]
    exact ⟨rfl,rfl,rfl,h0,hninf⟩
  clear h0 h23 e
  rintro wb e ds L ⟨rfl,rfl,rfl,h0,hninf⟩
  rw[V_seq,V_seq]
  refine cutV (FaI wb row 51 (decide (row.length=16∧row.take 3=[110,97,110]))) ?_ ?_
  ·simp (disch:=omega) only[push_cast,qE,h0]
   refine gT rfl (fun h16=>?_) (fun h16=>?_)
   ·simp (disch:=omega) only[push_cast,qE,h0]
    refine ⟨rfl,rfl,rfl,h0,?_⟩
    have e3:(3:Int).toNat=3:=rfl
    first
     | exact is_d ⟨fun h=>⟨by omega,h⟩,fun h=>h.2⟩
     | (rw[e3]; exact is_d ⟨fun h=>⟨by omega,h⟩,fun h=>h.2⟩)
   ·simp (disch:=omega) only[push_cast,qE,h0]
    exact ⟨rfl,rfl,rfl,h0,is_f (fun h=>h16 (by omega))⟩
  clear h0 e
  rintro wb e ds L ⟨rfl,rfl,rfl,h0,h51⟩
  refine cutV (FdI wb row (¬ (row.length=16∧row.take 3=[110,97,110]))) ?_ ?_
  ·rw[Vc]
   simp (disch:=omega) only[push_cast,qE,h0,h51]
   refine cdD (fun hnan=>?_) (fun hnan=>?_)
   rotate_left
   ·simp (disch:=omega) only[push_cast,qE,h0]
    exact ⟨rfl,rfl,rfl,h0,hnan⟩
   obtain ⟨h16,h3⟩:=hnan
   have hrn:∀ m,-9223372036854775808≤m∧m < 9223372036854775808→floatT m=row→∃ y,0 < y∧y < 4503599627370496∧row.drop 3=hexs y 13:=fun m hm e=>by
    obtain ⟨q1,q2⟩:=hpos m hm e
    rcases fl_cases q1 with ⟨q3,_⟩|⟨y,y1,y2,_,q3⟩|⟨mm,aa,q3,_⟩
    ·rw[q2] at q3; exact absurd q3 hninf
    ·rw[q2] at q3
     exact ⟨y,y1,y2,by rw[q3]; rfl⟩
    ·exfalso
     rw[q2] at q3
     obtain ⟨c,r,q4,q5⟩:=finT_head mm aa
     rw[q3,q4] at h3
     rw[(List.cons.inj h3).1] at q5
     exact absurd q5 (by decide)
   simp (disch:=omega) only[push_cast,qE,h0]
   rw[Vb]
   simp (disch:=omega) only[push_cast,qE,h0]
   refine loopW (G:=Nat) (FnI wb row) (fun j=>16 - j) 3 _ (fun w hw=>hw) (by kernel_rfl) ⟨rfl,rfl,rfl,by omega,h0,rfl,0,rfl,by decide,by rw[List.drop_take]; rfl⟩ ?_
   clear h0 h51 e
   rintro j wb e ds L ⟨rfl,rfl,rfl,hj,h0,h7,x,h6,hxl,hxh⟩
   simp (disch:=omega) only[push_cast,qE,h7]
   rw[Vc]
   simp (disch:=omega) only[push_cast,qE,h7]
   refine cdD (fun hlt=>?_) (fun hge=>?_)
   ·obtain ⟨c,hc⟩:∃ c,row.getD j 0=c:=⟨_,rfl⟩
    have hsc:row[j]?=some c:=by rw[← hc]; exact getD_at (by omega)
    have hx48:x < 281474976710656:=Nat.lt_of_lt_of_le hxl (Nat.le_trans (Nat.pow_le_pow_right (by decide) (by omega:j - 3≤12)) (by decide))
    simp (disch:=omega) only[push_cast,qE,h0,h7]
    rw[Vb]
    simp (disch:=omega) only[push_cast,qE,h0,h7,hc]
    refine callV en_99 (cIs (fun w' _=>digitR_walk w' c) ?_)
    rcases hd:digV c with _|d
    ·refine sp ?_
     rw[Vc]
     refine sp ?_
     refine cdD (fun _=>?_) (fun h=>absurd (by decide) h)
     refine sp ?_
     refine finEx (by simp) fun w' _=>FlS.none _ fun m hm e=>?_
     obtain ⟨y,_,_,q3⟩:=hrn m hm e
     obtain ⟨d,hd2⟩:=hex_some 13 y c (by rw[← q3]; exact List.mem_iff_getElem?.2 ⟨j - 3,by rw[List.getElem?_drop,show 3+(j - 3)=j by omega]; exact hsc⟩)
     rw[hd] at hd2
     cases hd2
    ·have hd16:=digV_lt hd
     refine sp ?_
     rw[Vc]
     refine sp ?_
     refine cdD (fun h=>absurd h (by omega)) (fun _=>?_)
     simp (disch:=omega) only[push_cast,qE,h6,h7]
     refine ⟨j+1,_,fun w hw=>hw,⟨rfl,rfl,rfl,by omega,h0,i64_eq (by omega),16 * x+d,i64_eq (by omega),?_,?_⟩,by omega⟩
     ·rw[show j+1 - 3=(j - 3)+1 by omega,Nat.pow_succ]; omega
     ·rw[show j+1 - 3=(j - 3)+1 by omega,hexs,show (16 * x+d) / 16=x by omega,show (16 * x+d) % 16=d by omega,hxh,dig_hex hd,List.take_add_one,hsc,List.drop_append_of_le_length (by rw[List.length_take]; omega)]
      rfl
   ·obtain rfl:j=16:=by omega
    have hxl2:x < 4503599627370496:=hxl
    rw[show row.take 16=row from List.take_of_length_le (by omega)] at hxh
    have hrow:=nan_row h16 h3 hxh
    simp (disch:=omega) only[push_cast,qE,h6]
    by_cases hx0:x=0
    ·subst hx0
     refine finEx (by simp) fun w' _=>?_
     refine ⟨_,false,rfl,fun h=>absurd h (by decide),fun _ m hm e=>?_⟩
     obtain ⟨y,y1,y2,q3⟩:=hrn m hm e
     have:=hexs_inj 13 0 y (by decide) (by have:(16:Nat) ^ 13=4503599627370496:=rfl; omega) (hxh.trans q3)
     omega
    ·refine finEx (by simp) fun w' _=>?_
     refine ⟨9218868437227405312+(x:Int),true,?_,fun _=>⟨by omega,?_⟩,fun h=>absurd h (by decide)⟩
     ·rw[decide_eq_true (by omega)]
     ·rw[fl_pos (by omega) (by omega),hrow]
      unfold floatU
      rw[if_pos (by omega),if_neg (by omega),show (9218868437227405312+(x:Int)).toNat % 4503599627370496=x by omega]
  clear h0 h51 e
  rintro wb e ds L ⟨rfl,rfl,rfl,h0,hnnan⟩
  simp (disch:=omega) only[push_cast,qE,h0]
  have hfin:∀ m,-9223372036854775808≤m∧m < 9223372036854775808→floatT m=row→∃ mm aa,row=finT mm aa∧mm < 9007199254740992∧((mm=0∧aa=0)∨FinOK mm aa):=fun m hm e=>by
   obtain ⟨q1,q2⟩:=hpos m hm e
   rcases fl_cases q1 with ⟨q3,_⟩|⟨y,y1,y2,_,q3⟩|⟨mm,aa,q3,q4,q5⟩
   ·rw[q2] at q3; exact absurd q3 hninf
   ·rw[q2] at q3
    refine absurd ⟨?_,?_⟩ hnnan
    ·rw[q3,List.length_append,hexs_len]; rfl
    ·rw[q3]; rfl
   ·refine ⟨mm,aa,q2.symm.trans q3,q4,?_⟩
    rcases q5 with ⟨r1,r2,_⟩|⟨r1,_⟩
    ·exact .inl ⟨r1,r2⟩
    ·exact .inr r1
  rw[Vb]
  simp (disch:=omega) only[push_cast,qE,h0]
  refine loopW (G:=Nat) (FpI wb row) (fun i=>row.length - i) 0 _ (fun w hw=>hw) (by kernel_rfl) ⟨rfl,rfl,rfl,Nat.zero_le _,by simp,h0,rfl⟩ ?_
  clear h0 e
  rintro i wb e ds L ⟨rfl,rfl,rfl,hi,hnp,h0,h9⟩
  simp (disch:=omega) only[push_cast,qE,h0,h9]
  rw[Vc]
  simp (disch:=omega) only[push_cast,qE,h0,h9]
  refine cdD (fun hlt=>?_) (fun hge=>?_)
  rotate_left
  ·obtain rfl:i=row.length:=by omega
   rw[List.take_length] at hnp
   refine sp ?_
   refine finEx (by simp) fun w' _=>FlS.none _ fun m hm e=>?_
   obtain ⟨mm,aa,q1,_⟩:=hfin m hm e
   apply hnp
   rw[q1]
   unfold finT
   exact List.mem_append_right _ (.head _)
  obtain ⟨c,hc⟩:∃ c,row.getD i 0=c:=⟨_,rfl⟩
  have hsc:row[i]?=some c:=by rw[← hc]; exact getD_at (by omega)
  simp (disch:=omega) only[push_cast,qE,h0,h9]
  rw[Vb]
  simp (disch:=omega) only[push_cast,qE,h0,h9,hc]
  rw[Vc]
  simp (disch:=omega) only[push_cast,qE,h0,h9,hc]
  refine cdD (fun hp=>?_) (fun hnp2=>?_)
  rotate_left
  ·simp (disch:=omega) only[push_cast,qE,h9]
   refine ⟨i+1,_,fun w hw=>hw,⟨rfl,rfl,rfl,by omega,fun h=>?_,h0,i64_eq (by omega)⟩,by omega⟩
   rw[List.take_add_one,hsc] at h
   rcases List.mem_append.1 h with h|h
   ·exact hnp h
   ·simp only[Option.toList_some,List.mem_singleton] at h
    rw[← h] at hnp2
    exact hnp2 rfl
  have hc112:c=112:=UInt8.toNat_inj.1 (by rw[show (112:UInt8).toNat=112 from rfl]; omega)
  rw[hc112] at hsc
  have hsplit:row=row.take i++112::row.drop (i+1):=by rw[← cons_drop hsc,List.take_append_drop]
  have huniq:∀ mm aa,row=finT mm aa→row.take i=Lib.decDigits mm∧row.drop (i+1)=Lib.itoa aa:=fun mm aa h=>split_p hnp (dec_nop mm) (hsplit.symm.trans h)
  have etn:((i:Int)+1).toNat=i+1:=by omega
  simp (disch:=omega) only[push_cast,qE,h0,h9,Int.toNat_natCast]
  refine callV en_91 (callX_ex (fun w' hw'=>tensR_walk w' (row.take i) 9007199254740991 (by omega) (by omega) (by rw[List.length_take]; omega)) (fun v hv=>?_))
  obtain ⟨x,b,rfl,hx,hb1,hb0⟩:=hv
  simp (disch:=omega) only[push_cast,qE,h0,h9,etn]
  refine callV en_93 (callX_ex (fun w' hw'=>wholeN_walk w' (row.drop (i+1)) (by rw[List.length_drop]; omega)) (fun v hv=>?_))
  obtain ⟨a,b2,rfl,har,hw1,hw0⟩:=hv
  have hex:∀ mm aa,((mm=0∧aa=0)∨FinOK mm aa)→-1074≤aa∧aa≤1023:=fun mm aa h=>by
   rcases h with ⟨_,rfl⟩|h
   ·decide
   ·have h1:=h.lo; have h2:=h.hi; have h3:=h.len; omega
  have hrange:∀ mm aa,((mm=0∧aa=0)∨FinOK mm aa)→-9223372036854775808≤aa∧aa < 9223372036854775808:=fun mm aa h=>by have:=hex mm aa h; omega
  cases b with
  | false =>
   simp (maxSteps:=1000000) (disch:=omega) only[push_cast,qE,Bool.not_false,Bool.not_true]
   rw[Vc]
   simp (maxSteps:=1000000) (disch:=omega) only[push_cast,qE,Bool.not_false,Bool.not_true]
   refine finEx (by simp) fun w' _=>FlS.none _ fun m hm e=>?_
   obtain ⟨mm,aa,q1,q2,q3⟩:=hfin m hm e
   exact (hb0 rfl).2 mm (by omega) (huniq mm aa q1).1.symm
  | true =>
   cases b2 with
   | false =>
    simp (maxSteps:=1000000) (disch:=omega) only[push_cast,qE,Bool.not_false,Bool.not_true]
    rw[Vc]
    simp (maxSteps:=1000000) (disch:=omega) only[push_cast,qE,Bool.not_false,Bool.not_true]
    refine finEx (by simp) fun w' _=>FlS.none _ fun m hm e=>?_
    obtain ⟨mm,aa,q1,q2,q3⟩:=hfin m hm e
    exact hw0 rfl aa (hrange mm aa q3) (huniq mm aa q1).2.symm
   | true =>
    have hx1:=hb1 rfl
    have ha1:=hw1 rfl
    have huq:∀ m,-9223372036854775808≤m∧m < 9223372036854775808→floatT m=row→(x=0∧a=0)∨FinOK x a:=fun m hm e=>by
     obtain ⟨mm,aa,q1,q2,q3⟩:=hfin m hm e
     obtain ⟨u1,u2⟩:=huniq mm aa q1
     rw[dec_inj (hx1.trans u1),itoa_inj (ha1.trans u2)]
     exact q3
    simp (maxSteps:=1000000) (disch:=omega) only[push_cast,qE,Bool.not_false,Bool.not_true]
    refine gF rfl (fun hlo=>?_) (fun hlo=>?_)
    rotate_left
    ·simp (maxSteps:=1000000) (disch:=omega) only[push_cast,qE,Bool.not_false,Bool.not_true]
     rw[Vc]
     simp (maxSteps:=1000000) (disch:=omega) only[push_cast,qE,Bool.not_false,Bool.not_true]
     refine finEx (by simp) fun w' _=>FlS.none _ fun m hm e=>?_
     have:=hex _ _ (huq m hm e)
     omega
    simp (maxSteps:=1000000) (disch:=omega) only[push_cast,qE,Bool.not_false,Bool.not_true]
    rw[Vc]
    simp (maxSteps:=1000000) (disch:=omega) only[push_cast,qE,Bool.not_false,Bool.not_true]
    refine cdD (fun hhi=>?_) (fun hhi=>?_)
    ·simp (maxSteps:=1000000) (disch:=omega) only[push_cast,qE,Bool.not_false,Bool.not_true]
     refine finEx (by simp) fun w' _=>FlS.none _ fun m hm e=>?_
     have:=hex _ _ (huq m hm e)
     omega
    simp (maxSteps:=1000000) (disch:=omega) only[push_cast,qE,Bool.not_false,Bool.not_true]
    refine callV en_124 (callX_ex (fun w' hw'=>scaled_walk w' x a (by omega) (by omega)) (fun v hv=>?_))
    obtain ⟨n,b3,rfl,s1,s0⟩:=hv
    simp (maxSteps:=1000000) (disch:=omega) only[push_cast,qE,Bool.not_false,Bool.not_true]
    refine finEx (by simp) fun w' _=>⟨n,b3,rfl,fun h=>?_,fun h m hm e=>?_⟩
    ·have hrow:row=finT x a:=by rw[hsplit,← hx1,← ha1]; rfl
     have key:(x=0∧a=0∧n.toNat=0)∨(FinOK x a∧n.toNat=bitsOf x a):=by
      rcases s1 h with ⟨r1,r2,r3⟩|⟨r1,r2⟩
      ·exact .inl ⟨r1,r2,by rw[r3]; rfl⟩
      ·exact .inr ⟨r1,by rw[r2,Int.toNat_natCast]⟩
     have hn0:0≤n:=by
      rcases s1 h with ⟨_,_,r3⟩|⟨_,r2⟩<;>omega
     obtain ⟨k1,k2⟩:=fl_fin key
     refine ⟨by omega,?_⟩
     rw[fl_pos hn0 (by omega),k2,hrow]
    ·obtain ⟨t1,t2⟩:=s0 h
     rcases huq m hm e with h|h
     ·exact t1 h
     ·exact t2 h
theorem readFloat_walk (w:World) (row:List UInt8) (hs:row.length≤65536):Calls Tryz.prog 92 #[str row] w (Rets w fun v _=>FlS row v):=readFloat_rec (row.length+1) row (Nat.lt_succ_self _) hs w
theorem readNum_walk (w:World) (k:Int) (hk:2≤k∧k≤11) (row:List UInt8) (hlen:row.length≤65536):Calls Tryz.prog 60 #[i64 k,str row] w (Rets w fun v _=>NbS k row v):=by
 refine enterT (args:=[i64 k,str row]) Tryz.func60 rfl Tryz.ntmps60 (congrArg Array.toList Tryz.results60) (by kernel_rfl) (by simp) (Sy.refl w) ?_
 refine sp ?_
 rw[Vb]
 refine sp ?_
 rw[Vc]
 refine sp ?_
 refine cdD (fun hk2=>?_) (fun hk2=>?_)
 ·have hb:∀ m,isNum k m→m=0∨m=1:=fun m hm=>by have:=hm.2; rwa [if_pos hk2] at this
  have ht:∀ m,numT k m=boolT (decide (m=1)):=fun m=>by unfold numT; rw[if_pos hk2]
  refine sp ?_
  rw[Vc]
  refine sp ?_
  refine cdD (fun h1=>?_) (fun h1=>?_)
  ·refine sp ?_
   exact finEx (by simp) fun w' _=>⟨1,true,rfl,fun _=>readN_yes ⟨by decide,by rw[if_pos hk2]; exact .inr rfl⟩ (by rw[ht,h1]; rfl),fun h=>absurd h (by decide)⟩
  ·refine sp ?_
   refine finEx (by simp) fun w' _=>NbS.dec (fun h=>⟨⟨by decide,by rw[if_pos hk2]; exact .inl rfl⟩,by rw[ht,h]; rfl⟩) (fun h m hm he=>?_)
   rw[ht] at he
   rcases hb m hm with rfl|rfl
   ·exact h he.symm
   ·exact h1 he.symm
 refine sp ?_
 rw[Vc]
 refine sp ?_
 refine cdD (fun hk10=>?_) (fun hk10=>?_)
 ·subst hk10
  have hin:∀ m,isNum 10 m↔(-9223372036854775808≤m∧m < 9223372036854775808):=fun m=>⟨fun h=>h.1,fun h=>⟨h,by rw[if_neg (by decide),if_neg (by decide)]; exact ⟨rfl,rfl⟩⟩⟩
  refine sp ?_
  refine callV en_91 (callX_ex (fun w' hw'=>tensR_walk w' row 18446744073709551615 (by omega) (by omega) hlen) (fun v hv=>?_))
  obtain ⟨x,b,rfl,hx,hb1,hb0⟩:=hv
  refine sp ?_
  refine finEx (by simp) fun w' _=>⟨IntKind.i64.wrap (x:Int),b,rfl,fun h=>readN_yes ((hin _).2 ?_) ?_,fun h=>readN_no fun m hm he=>?_⟩
  ·rw[IntKind.wrap_i64]; omega
  ·rw[numT_un,uns_wrap (by omega)]; exact hb1 h
  ·rw[numT_un] at he
   exact (hb0 h).2 (unsP m) (by unfold unsP; omega) he
 refine sp ?_
 rw[Vc]
 refine sp ?_
 refine cdD (fun hk11=>?_) (fun hk11=>?_)
 ·refine sp ?_
  refine callV en_92 (callX_ex (fun w' hw'=>readFloat_walk w' row hlen) (fun v hv=>?_))
  obtain ⟨n,b,rfl,h1,h2⟩:=hv
  refine sp ?_
  refine finEx (by simp) fun w' _=>⟨n,b,rfl,fun h=>readN_yes ⟨(h1 h).1,by rw[if_neg hk2,if_pos hk11]; trivial⟩ (by unfold numT; rw[if_neg hk2,if_neg (by omega),if_pos hk11]; exact (h1 h).2),fun h=>readN_no fun m hm he=>h2 h m hm.1 ?_⟩
  unfold numT at he
  rwa [if_neg hk2,if_neg (by omega),if_pos hk11] at he
 have hT:∀ m,numT k m=Lib.itoa m:=fun m=>by unfold numT; rw[if_neg hk2,if_neg hk10,if_neg hk11]
 have hI:∀ m,isNum k m↔(-9223372036854775808≤m∧m < 9223372036854775808)∧kindN k m=true:=fun m=>by
  unfold isNum kindN
  rw[if_neg hk2,if_neg hk11,if_neg hk2,if_neg hk11,show wholeP k=true by unfold wholeP; simp; omega]
  simp
 refine sp ?_
 refine callV en_93 (callX_ex (fun w' hw'=>wholeN_walk w' row hlen) (fun v hv=>?_))
 obtain ⟨n,b,rfl,hn,h1,h2⟩:=hv
 refine sp ?_
 refine gbT rfl (fun hb=>?_) (fun hb=>?_)
 ·subst hb
  refine sp ?_
  refine callV en_94 (cIs (fun w' _=>rangedR_walk w' k n hk) ?_)
  refine sp ?_
  refine finEx (by simp) fun w' _=>⟨n,kindN k n,rfl,fun h=>readN_yes ((hI n).2 ⟨hn,h⟩) (by rw[hT]; exact h1 rfl),fun h=>readN_no fun m hm he=>?_⟩
  rw[hT] at he
  rw[itoa_inj (he.trans (h1 rfl).symm)] at hm
  rw[((hI n).1 hm).2] at h
  cases h
 ·subst hb
  refine sp ?_
  refine finEx (by simp) fun w' _=>NbS.no n fun m hm he=>?_
  rw[hT] at he
  exact h2 rfl m hm.1 he
end Go.Proofs.YtilejcofleeeiaaGreatDoor
