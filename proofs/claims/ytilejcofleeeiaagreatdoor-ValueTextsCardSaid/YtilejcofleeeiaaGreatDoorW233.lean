/- YtilejcofleeeiaaGreatDoor: walks, part 233: a parser: floating-point numbers. -/
import Derived.Test.YtilejcofleeeiaaGreatDoorW228
import Derived.Test.YtilejcofleeeiaaGreatDoorW242
namespace Go.Proofs.YtilejcofleeeiaaGreatDoor
open Go Go.K
open Nat renaming reduceEqDiff → qE
set_option maxRecDepth 100000
set_option linter.unusedVariables false
set_option linter.unusedSimpArgs false
set_option maxHeartbeats 4000000
def sgT (sg:Bool):List UInt8:=if sg then [45] else []
def sgN (sg:Bool):Int:=if sg then 9223372036854775808 else 0
def flI (sg:Bool) (x:Nat):Int:=if sg then (x:Int) - 9223372036854775808 else x
theorem flI_range {sg:Bool} {x:Nat} (h:x < 9223372036854775808) : -9223372036854775808≤flI sg x∧flI sg x < 9223372036854775808:=by unfold flI; split<;>omega
theorem flI_wrap {sg:Bool} {x:Nat} (h:x < 9223372036854775808):IntKind.i64.wrap (sgN sg+x)=flI sg x:=by
 rw[show IntKind.i64.wrap (sgN sg+x)=_ from IntKind.wrap_i64 _]
 unfold sgN flI
 cases sg<;>simp only[if_true,Bool.false_eq_true,if_false]<;>omega
theorem flI_T {sg:Bool} {x:Nat} (h:x < 9223372036854775808):floatT (flI sg x)=sgT sg++floatU x:=by
 have e:magU (flI sg x)=x:=by unfold magU flI; cases sg<;>simp only[if_true,Bool.false_eq_true,if_false]<;>omega
 unfold floatT
 rw[e]
 cases sg
 ·rw[if_neg (by unfold flI; simp only[Bool.false_eq_true,if_false]; omega)]; rfl
 ·rw[if_pos (by unfold flI; simp only[if_true]; omega)]; rfl
theorem row_split (row:List UInt8):row=sgT (Lib.hasPrefix row [45])++Lib.trimPrefix row [45]:=by
 unfold sgT Lib.trimPrefix
 cases h:Lib.hasPrefix row [45]
 ·simp
 ·obtain ⟨x,hx⟩:=List.isPrefixOf_iff_prefix.1 h
  rw[← hx]
  simp
theorem float_row {row:List UInt8} {m:Int} (hm : -9223372036854775808≤m∧m < 9223372036854775808) (h:floatT m=row):∃ x,x < 9223372036854775808∧m=flI (Lib.hasPrefix row [45]) x∧Lib.trimPrefix row [45]=floatU x:=by
 have hx:magU m < 9223372036854775808:=by unfold magU; omega
 refine ⟨magU m,hx,?_⟩
 by_cases h0:m < 0
 ·have hr:row=45::floatU (magU m):=by rw[← h]; unfold floatT; rw[if_pos h0]
  have hp:Lib.hasPrefix row [45]=true:=by rw[hr]; rfl
  refine ⟨?_,?_⟩
  ·rw[hp]; unfold flI magU; simp only[if_true]; omega
  ·unfold Lib.trimPrefix; rw[hp,if_pos rfl,hr]; rfl
 ·have hr:row=floatU (magU m):=by rw[← h]; unfold floatT; rw[if_neg h0]
  have hp:Lib.hasPrefix row [45]=false:=by
   obtain ⟨c,r,e,hc⟩:=floatU_head (magU m)
   rw[hr,e]
   show ([45]:List UInt8).isPrefixOf (c::r)=false
   simp only[List.isPrefixOf,Bool.and_eq_false_iff,beq_eq_false_iff_ne]
   exact .inl fun h=>hc h.symm
  refine ⟨?_,?_⟩
  ·rw[hp]; unfold flI magU; simp only[Bool.false_eq_true,if_false]; omega
  ·unfold Lib.trimPrefix; rw[hp,if_neg (by decide),hr]
def FlS (row:List UInt8) (v:Value):Prop:=∃ (n:Int) (b:Bool),v=.tuple #[i64 n,.bool b]∧(b=true→(-9223372036854775808≤n∧n < 9223372036854775808)∧floatT n=row)∧(b=false→∀ m,-9223372036854775808≤m∧m < 9223372036854775808→floatT m≠row)
theorem FlS.no {row body:List UInt8} (n:Int) (hb:Lib.trimPrefix row [45]=body) (h:∀ x,x < 9223372036854775808→body≠floatU x):FlS row (.tuple #[i64 n,.bool false]):=by
 refine ⟨n,false,rfl,fun h=>absurd h (by decide),fun _ m hm hx=>?_⟩
 obtain ⟨x,h1,_,h3⟩:=float_row hm hx
 exact h x h1 (hb.symm.trans h3)
theorem FlS.yes {row body:List UInt8} {sg:Bool} {x:Nat} (hs:Lib.hasPrefix row [45]=sg) (hb:Lib.trimPrefix row [45]=body) (hx:x < 9223372036854775808) (h:body=floatU x):FlS row (.tuple #[i64 (flI sg x),.bool true]):=by
 refine ⟨_,true,rfl,fun _=>⟨flI_range hx,?_⟩,fun h=>absurd h (by decide)⟩
 rw[flI_T hx,← h,← hb,← hs]
 exact (row_split row).symm
theorem FlS.dec {row body:List UInt8} {sg:Bool} {x:Nat} (hs:Lib.hasPrefix row [45]=sg) (hb:Lib.trimPrefix row [45]=body) (hx:x < 9223372036854775808) (h:∀ y,y < 9223372036854775808→body=floatU y→x=y):FlS row (.tuple #[i64 (flI sg x),.bool (decide (floatT (flI sg x)=row))]):=by
 refine ⟨_,_,rfl,fun h=>⟨flI_range hx,of_decide_eq_true h⟩,fun h1 m hm h2=>?_⟩
 obtain ⟨y,y1,y2,y3⟩:=float_row hm h2
 have:=h y y1 (hb.symm.trans y3)
 subst this
 rw[hs] at y2
 exact of_decide_eq_false h1 (by rw[← y2]; exact h2)
theorem nan_body {rest:List UInt8} {x:Nat} (hx:x < 9223372036854775808) (h:[110,97,110]++rest=floatU x):rest=hexs (x % 4503599627370496) 13∧x=9218868437227405312+x % 4503599627370496:=by
 have hd:∀ m a,finT m a≠[110,97,110]++rest:=fun m a e=>by
  obtain ⟨c,r,e2,hc⟩:=finT_head m a
  rw[e2] at e
  rw[(List.cons.inj e).1] at hc
  exact absurd hc (by decide)
 unfold floatU at h
 split at h
 ·split at h
  ·exact absurd (List.cons.inj h).1 (by decide)
  ·exact ⟨List.append_cancel_left h,by omega⟩
 ·split at h
  ·exact absurd (List.cons.inj h).1 (by decide)
  ·exact absurd h.symm (hd _ _)
theorem fin_body {body:List UInt8} {x:Nat} (hx:x < 9223372036854775808) (h:body=floatU x) (h1:Lib.hasPrefix body [110,97,110]=false) (h2:body≠[105,110,102]) (h3:body≠[48,112,48]):body=finT (oddM x) (oddE x)∧0 < x∧x / 4503599627370496 < 2047:=by
 unfold floatU at h
 split at h
 ·split at h
  ·exact absurd h h2
  ·rw[h] at h1
   have:Lib.hasPrefix ([110,97,110]++hexs (x % 4503599627370496) 13) [110,97,110]=true:=rfl
   rw[this] at h1
   cases h1
 ·split at h
  ·exact absurd h h3
  ·exact ⟨h,by omega,by omega⟩
theorem finT_cut (m:Nat) (a:Int):Lib.cut (finT m a) [112]=(Lib.decDigits m,Lib.itoa a,true):=cut_one _ _ _ fun x hx e=>by
 have:=(dec_all m).1 x hx
 rw[e] at this
 exact absurd this (by decide)
theorem bitsOf_lt {m:Nat} {a:Int} (h0:0 < m) (h1:m < 9007199254740992) (h2 : -1074≤a) (h3:a+blen m - 1≤1023):bitsOf m a < 9223372036854775808:=by
 have hl:blen m≤53:=blen_le (k:=53) (by omega)
 have hb:=(blen_spec h0)
 unfold bitsOf
 split
 ·obtain ⟨s1,s2⟩:=scale h0 hl
  omega
 ·rename_i hn
  have e:m * 2 ^ (a+1074).toNat < 2 ^ blen m * 2 ^ (a+1074).toNat:=Nat.mul_lt_mul_of_pos_right hb.2.1 (Nat.two_pow_pos _)
  rw[← Nat.pow_add] at e
  have e2:(2:Nat) ^ (blen m+(a+1074).toNat)≤2 ^ 52:=Nat.pow_le_pow_right (by decide) (by omega)
  have:(2:Nat) ^ 52=4503599627370496:=rfl
  omega
theorem orN (i:Nat) (a b:Int) (h0:0≤a) (h1:a < 18446744073709551616) (ha:a.toNat % 2 ^ i=0) (hb0:0≤b) (hb:b.toNat < 2 ^ i) (h2:b < 18446744073709551616):bits .or .u64 a b=a+b:=by
 rw[u64_or _ _ h0 h1 hb0 h2,nat_join i _ _ ha hb]
 omega
theorem orG {P:Program} {K:Value→Prop} (t:TypeId) (x y:Operand) (a b:Int):PureX P (binV .or t x y (.int .u64 a) (.int .u64 b)) (tag K)=K (.int .u64 (bits .or .u64 a b)):=px (fun w=>rfl) K
theorem orSg {sg:Bool} {y:Nat} (h:y < 9223372036854775808):bits .or .u64 (sgN sg) y=sgN sg+y:=by
 refine orN 63 _ _ ?_ ?_ ?_ (by omega) (by rw[show (2:Nat) ^ 63=9223372036854775808 from rfl]; omega) (by omega)<;>unfold sgN<;>cases sg<;>decide
theorem orNan {y:Nat} (h:y < 4503599627370496):bits .or .u64 9218868437227405312 y=((9218868437227405312+y:Nat):Int):=by
 rw[orN 52 _ _ (by decide) (by decide) (by decide) (by omega) (by rw[show (2:Nat) ^ 52=4503599627370496 from rfl]; omega) (by omega)]
 omega
theorem eq_err_nil {K:Value→Prop} (x:Operand):PureX Tryz.prog (binV .eql 91 x (.const .nilIface) .nilIface .nilIface) (tag K)=K (.bool true):=px (fun w=>by
 have h:(Op.equal 91 .nilIface .nilIface).run Tryz.prog w=.ok true w:=by
  show (Op.equalIn (9999+1) 91 .nilIface .nilIface).run Tryz.prog w=_
  unfold Op.equalIn
  simp only[underlying,Sem.run_bind,run_program,Result.andThen_ok,Tryz.underlying91,Sem.run_pure]
 simp[binV,eqGuard,binOp,h]) K
theorem eq_err_some {K:Value→Prop} (x:Operand) (te:TypeId) (pe:Value):PureX Tryz.prog (binV .eql 91 x (.const .nilIface) (.iface te pe) .nilIface) (tag K)=K (.bool false):=px (fun w=>by
 first
 | rfl
 | (simp[binV,eqGuard,binOp]; done)) K
structure FgI (w0:World) (row body:List UInt8) (sg:Bool) (wb:World) (e:Env) (ds:List Deferred) (L:Own):Prop where
 hw:wb=w0
 hds:ds=[]
 o:L=[]
 h0:e 0=str row
 h4:e 4=str body
 h6:e 6=.int .u64 (sgN sg)
structure FgJ (w0:World) (row:List UInt8) (n:Int) (wb:World) (e:Env) (ds:List Deferred) (L:Own):Prop where
 hw:wb=w0
 hds:ds=[]
 o:L=[]
 h0:e 0=str row
 h6:e 6=.int .u64 n
theorem cut_len (s p:List UInt8):(Lib.cut s p).1.length≤s.length∧(Lib.cut s p).2.1.length≤s.length:=by
 unfold Lib.cut
 split
 ·simp only[List.length_take,List.length_drop]
  omega
 ·simp
theorem shlE {P:Program} {K:Value→Prop} (t:TypeId) (x y:Operand) (e:Nat) (h:e≤2047):PureX P (binV .shl t x y (.int .u64 e) (.int .u64 52)) (tag K)=K (.int .u64 ((e * 4503599627370496:Nat):Int)):=by
 rw[bshl .u64 .u64 t x y e 52 (by decide),show (2:Int) ^ min (52:Int).toNat IntKind.u64.bits=4503599627370496 from rfl,show IntKind.u64.wrap ((e:Int) * 4503599627370496)=_ from IntKind.wrap_u64 _]
 congr 2
 omega
theorem shlP {P:Program} {K:Value→Prop} (t:TypeId) (x y:Operand) (m:Nat) (j:Int) (h0:0≤j) (h1:j≤64) (h:m * 2 ^ j.toNat < 18446744073709551616):PureX P (binV .shl t x y (.int .u64 m) (.int .i64 j)) (tag K)=K (.int .u64 ((m * 2 ^ j.toNat:Nat):Int)):=by
 have e2:min j.toNat IntKind.u64.bits=j.toNat:=Nat.min_eq_left (by show j.toNat≤64; omega)
 rw[bshl .u64 .i64 t x y m j h0,e2,show (m:Int) * 2 ^ j.toNat=((m * 2 ^ j.toNat:Nat):Int) by rw[Int.natCast_mul,Int.natCast_pow]; rfl,show IntKind.u64.wrap ((m * 2 ^ j.toNat:Nat):Int)=_ from IntKind.wrap_u64 _]
 congr 2
 omega
theorem orHi {e hi lo:Nat} (he:e≤2047) (h:e * 4503599627370496=hi) (hlo:lo < 4503599627370496):bits .or .u64 (hi:Int) (lo:Int)=((hi+lo:Nat):Int):=by
 have p52:(2:Nat) ^ 52=4503599627370496:=rfl
 have hm:hi % 2 ^ 52=0:=by rw[p52,← h]; exact Nat.mul_mod_left _ _
 rw[u64_or _ _ (by omega) (by omega) (by omega) (by omega),Int.toNat_natCast,Int.toNat_natCast,nat_join 52 hi lo hm (by rw[p52]; exact hlo)]
theorem floating_walk (w:World) (hl:LibV w) (row:List UInt8) (hlen:row.length≤65536):Calls Tryz.prog 107 #[str row] w (Rets w fun v _=>FlS row v):=by
 refine enterT (args:=[str row]) Tryz.func107 rfl Tryz.ntmps107 (congrArg Array.toList Tryz.results107) (by kernel_rfl) (by simp) (Sy.refl w) ?_
 refine sp ?_
 refine callV en_128 (cIs (fun w' _=>cutPrefix_walk w' row [45]) ?_)
 obtain ⟨sg,hsg⟩:∃ sg,Lib.hasPrefix row [45]=sg:=⟨_,rfl⟩
 obtain ⟨body,hbody⟩:∃ body,Lib.trimPrefix row [45]=body:=⟨_,rfl⟩
 have hbl:body.length≤65536:=by
  have:=congrArg List.length (row_split row)
  rw[hbody,List.length_append] at this
  omega
 rw[hsg,hbody]
 refine sp ?_
 refine cutV (FgI w row body sg) ?_ ?_
 ·rw[Vc]
  refine sp ?_
  refine cdB (fun h=>?_) (fun h=>?_)
  ·refine sp ?_
   exact ⟨rfl,rfl,rfl,rfl,rfl,by rw[h]; rfl⟩
  ·refine sp ?_
   exact ⟨rfl,rfl,rfl,rfl,rfl,by rw[h]; rfl⟩
 rintro wb e ds L ⟨rfl,rfl,rfl,h0,h4,h6⟩
 simp (disch:=omega) only[push_cast,qE,h0,h4,h6]
 refine callV en_128 (cIs (fun w' _=>cutPrefix_walk w' body [110,97,110]) ?_)
 simp (disch:=omega) only[push_cast,qE,h0,h4,h6]
 rw[Vc]
 simp (disch:=omega) only[push_cast,qE,h0,h4,h6]
 refine cdB (fun hnan=>?_) (fun hnan=>?_)
 ·

  obtain ⟨rest,hrest⟩:∃ rest,Lib.trimPrefix body [110,97,110]=rest:=⟨_,rfl⟩
  have hbr:body=[110,97,110]++rest:=by
   obtain ⟨x,hx⟩:=List.isPrefixOf_iff_prefix.1 hnan
   rw[← hrest]
   unfold Lib.trimPrefix
   rw[hnan,if_pos rfl,← hx]
   rfl
  have hrl:rest.length≤65536:=by rw[hbr,List.length_append] at hbl; omega
  rw[hrest]
  simp (disch:=omega) only[push_cast,qE,h0,h4,h6]
  refine callV en_108 (callX_ex (fun w' hw'=>parse16_walk w' (hl.mono hw' (by simp)) rest (by omega)) (fun v hv=>?_))
  have nanP:∀ x,x < 9223372036854775808→body=floatU x→(if rest=[] then none else (parse16 rest 0).map fun n=>(n:Int))=some ((x % 4503599627370496:Nat):Int)∧x=9218868437227405312+x % 4503599627370496:=fun x hx hb=>by
   obtain ⟨n1,n2⟩:=nan_body hx (hbr.symm.trans hb)
   have hne:rest≠[]:=fun e=>by have:=hexs_len 13 (x % 4503599627370496); rw[← n1,e] at this; cases this
   refine ⟨?_,n2⟩
   rw[if_neg hne,n1,parse16_hexs 13 _ (by decide) (by have:(16:Nat) ^ 13=4503599627370496:=rfl; omega)]
   rfl
  obtain ⟨n,n0,n1,⟨hp,rfl⟩|⟨hp,te,pe,rfl⟩⟩:=hv
  ·obtain ⟨x,rfl⟩:∃ x:Nat,n=x:=⟨n.toNat,by omega⟩
   by_cases hx:x < 4503599627370496
   ·have ew:IntKind.i64.wrap (bits .or .u64 (sgN sg) (bits .or .u64 9218868437227405312 (x:Int)))=flI sg (9218868437227405312+x):=by rw[orNan hx,orSg (by omega),flI_wrap (by omega)]
    have hfr:=flI_range (sg:=sg) (x:=9218868437227405312+x) (by omega)
    simp (disch:=omega) only[push_cast,qE,h0,h4,h6,orG,ew]
    refine Eq.mpr (eq_err_nil _) ?_
    simp (disch:=omega) only[push_cast,qE,h0,h4,h6,orG,ew]
    refine gT rfl (fun _=>?_) (fun h=>absurd (by omega) h)
    simp (disch:=omega) only[push_cast,qE,h0,h4,h6,orG,ew]
    refine callV en_49 (cIs (fun w' hw'=>float_walk w' (hl.mono hw' (by simp)) _ hfr.1 hfr.2) ?_)
    simp (disch:=omega) only[push_cast,qE,h0,h4,h6,orG,ew]
    refine finEx (by simp) fun w' _=>FlS.dec hsg hbody (by omega) fun y hy hb=>?_
    obtain ⟨q1,q2⟩:=nanP y hy hb
    have:=Option.some.inj (hp.symm.trans q1)
    omega
   ·simp (disch:=omega) only[push_cast,qE,h0,h4,h6,orG]
    refine Eq.mpr (eq_err_nil _) ?_
    simp (disch:=omega) only[push_cast,qE,h0,h4,h6,orG]
    refine gT rfl (fun h=>absurd h (by omega)) (fun _=>?_)
    simp (disch:=omega) only[push_cast,qE,h0,h4,h6,orG]
    refine finEx (by simp) fun w' _=>FlS.no _ hbody fun y hy hb=>?_
    obtain ⟨q1,q2⟩:=nanP y hy hb
    have:=Option.some.inj (hp.symm.trans q1)
    omega
  ·simp (disch:=omega) only[push_cast,qE,h0,h4,h6,orG]
   refine Eq.mpr (eq_err_some _ _ _) ?_
   simp (disch:=omega) only[push_cast,qE,h0,h4,h6,orG]
   refine finEx (by simp) fun w' _=>FlS.no _ hbody fun y hy hb=>?_
   obtain ⟨q1,q2⟩:=nanP y hy hb
   exact absurd (hp.symm.trans q1) (by simp)

 ·simp (disch:=omega) only[push_cast,qE,h0,h4,h6,orG]
  rw[Vc]
  simp (disch:=omega) only[push_cast,qE,h0,h4,h6,orG]
  have e0:IntKind.i64.wrap (sgN sg)=flI sg 0:=by have:=flI_wrap (sg:=sg) (x:=0) (by omega); rwa [Int.natCast_zero,Int.add_zero] at this
  refine cdD (fun hinf=>?_) (fun hinf=>?_)
  ·have ew:IntKind.i64.wrap (bits .or .u64 (sgN sg) 9218868437227405312)=flI sg 9218868437227405312:=by
    have:=orSg (sg:=sg) (y:=9218868437227405312) (by omega)
    rw[show ((9218868437227405312:Nat):Int)=9218868437227405312 from rfl] at this
    rw[this]
    exact flI_wrap (x:=9218868437227405312) (by omega)
   simp (disch:=omega) only[push_cast,qE,h0,h4,h6,orG,ew]
   refine finEx (by simp) fun w' _=>FlS.yes hsg hbody (by omega) ?_
   rw[hinf]; rfl
  simp (disch:=omega) only[push_cast,qE,h0,h4,h6,orG]
  rw[Vc]
  simp (disch:=omega) only[push_cast,qE,h0,h4,h6,orG]
  refine cdD (fun hz=>?_) (fun hz=>?_)
  ·simp (disch:=omega) only[push_cast,qE,h0,h4,h6,orG,e0]
   refine finEx (by simp) fun w' _=>FlS.yes hsg hbody (by omega) ?_
   rw[hz]; rfl
  refine forget (fun e=>e 0=str row∧e 6=.int .u64 (sgN sg)∧e 4=str body) ⟨h0,h6,h4⟩ ?_
  clear h0 h4 h6 e e0
  rintro e ⟨h0,h6,h4⟩
  obtain ⟨od,pw,is,hcut⟩:∃ od pw is,Lib.cut body [112]=(od,pw,is):=⟨_,_,_,rfl⟩
  have hcl:=cut_len body [112]
  rw[hcut] at hcl
  simp only at hcl
  have finP:∀ x,x < 9223372036854775808→body=floatU x→is=true∧Lib.parseUintB 64 od=.ok (oddM x)∧Lib.parseIntB 64 pw=.ok (oddE x)∧FinOK (oddM x) (oddE x)∧bitsOf (oddM x) (oddE x)=x:=fun x hx hb=>by
   obtain ⟨q1,q2,q3⟩:=fin_body hx hb hnan hinf hz
   obtain ⟨q4,q5⟩:=bits_forth q2 q3
   have q6:=hcut
   rw[q1,finT_cut] at q6
   obtain ⟨rfl,q7⟩:=Prod.mk.inj q6
   obtain ⟨rfl,rfl⟩:=Prod.mk.inj q7
   have:=q4.lt
   have h1:=q4.lo
   have h2:=q4.hi
   have h3:=q4.len
   exact ⟨rfl,parseU_dec _ (by omega),parseI_itoa _ (by omega) (by omega),q4,q5⟩
  have no:(∀ x,x < 9223372036854775808→body≠floatU x)→∀ w',Sy wb [] w'→Rets wb (fun v _=>FlS row v) (.returned (.tuple #[i64 0,.bool false])) w':=fun h=>finEx (by simp) fun w' _=>FlS.no 0 hbody h
  simp (disch:=omega) only[push_cast,qE,h0,h4,h6]
  refine callV en_129 (cIs (v:=.tuple #[str od,str pw,.bool is]) (fun w' hw'=>by have:=cut1_walk w' body 112 (by omega); rw[hcut] at this; exact this) ?_)
  simp (disch:=omega) only[push_cast,qE,h0,h4,h6]
  refine callV en_108 (callX_ex (fun w' hw'=>parseUint_walk w' (hl.mono hw' (by simp)) od (by omega)) (fun v hv=>?_))
  obtain ⟨pt,p0,p1,⟨hpt,rfl⟩|⟨hpt,te,pe,rfl⟩⟩:=hv
  rotate_left
  ·

   simp (disch:=omega) only[push_cast,qE,h0,h4,h6]
   refine callV en_130 (callX_ex (fun w' hw'=>atoi_walk w' (hl.mono hw' (by simp)) pw (by omega)) (fun v hv=>?_))
   have hno:∀ x,x < 9223372036854775808→body≠floatU x:=fun x hx hb=>by
    rw[(finP x hx hb).2.1] at hpt
    cases hpt
   obtain ⟨a,a0,a1,⟨_,rfl⟩|⟨_,te',pe',rfl⟩⟩:=hv<;>cases is
   ·simp (maxSteps:=1000000) (disch:=omega) only[push_cast,qE,h0,h4,h6,Bool.not_false]
    rw[Vc]
    simp (disch:=omega) only[push_cast,qE,h0]
    exact no hno
   ·simp (disch:=omega) only[push_cast,qE,h0,h4,h6,Bool.not_true]
    refine Eq.mpr (bin_err_some _ _ _) ?_
    simp (disch:=omega) only[push_cast,qE,h0,h4,h6]
    rw[Vc]
    simp (disch:=omega) only[push_cast,qE,h0]
    exact no hno
   ·simp (maxSteps:=1000000) (disch:=omega) only[push_cast,qE,h0,h4,h6,Bool.not_false]
    rw[Vc]
    simp (disch:=omega) only[push_cast,qE,h0]
    exact no hno
   ·simp (disch:=omega) only[push_cast,qE,h0,h4,h6,Bool.not_true]
    refine Eq.mpr (bin_err_some _ _ _) ?_
    simp (disch:=omega) only[push_cast,qE,h0,h4,h6]
    rw[Vc]
    simp (disch:=omega) only[push_cast,qE,h0]
    exact no hno

  obtain ⟨m,rfl⟩:∃ m:Nat,pt=m:=⟨pt.toNat,by omega⟩
  simp (disch:=omega) only[push_cast,qE,h0,h4,h6]
  refine callV en_130 (callX_ex (fun w' hw'=>atoi_walk w' (hl.mono hw' (by simp)) pw (by omega)) (fun v hv=>?_))
  obtain ⟨a,a0,a1,⟨hat,rfl⟩|⟨hat,te',pe',rfl⟩⟩:=hv
  rotate_left
  ·have hno:∀ x,x < 9223372036854775808→body≠floatU x:=fun x hx hb=>by
    rw[(finP x hx hb).2.2.1] at hat
    cases hat
   cases is
   ·simp (maxSteps:=1000000) (disch:=omega) only[push_cast,qE,h0,h4,h6,Bool.not_false]
    rw[Vc]
    simp (disch:=omega) only[push_cast,qE,h0]
    exact no hno
   ·simp (disch:=omega) only[push_cast,qE,h0,h4,h6,Bool.not_true]
    refine Eq.mpr (bin_err_nil _) ?_
    simp (disch:=omega) only[push_cast,qE,h0,h4,h6]
    refine Eq.mpr (bin_err_some _ _ _) ?_
    simp (disch:=omega) only[push_cast,qE,h0,h4,h6]
    rw[Vc]
    simp (disch:=omega) only[push_cast,qE,h0]
    exact no hno
  cases is
  ·simp (disch:=omega) only[push_cast,qE,h0,h4,h6,Bool.not_false]
   rw[Vc]
   simp (disch:=omega) only[push_cast,qE,h0]
   exact no fun x hx hb=>absurd (finP x hx hb).1 (by decide)
  have finQ:∀ x,x < 9223372036854775808→body=floatU x→FinOK m a∧bitsOf m a=x:=fun x hx hb=>by
   obtain ⟨_,q1,q2,q3,q4⟩:=finP x hx hb
   rw[q1] at hpt
   rw[q2] at hat
   have e1:((oddM x:Nat):Int)=m:=Option.some.inj hpt
   have e2:oddE x=a:=Option.some.inj hat
   have e1:oddM x=m:=by omega
   rw[← e1,← e2]
   exact ⟨q3,q4⟩
  clear finP
  simp (disch:=omega) only[push_cast,qE,h0,h4,h6,Bool.not_true]
  refine Eq.mpr (bin_err_nil _) ?_
  simp (disch:=omega) only[push_cast,qE,h0,h4,h6]
  refine Eq.mpr (bin_err_nil _) ?_
  simp (disch:=omega) only[push_cast,qE,h0,h4,h6]
  refine gF rfl (fun c1=>?_) (fun c1=>?_)
  rotate_left
  ·simp (disch:=omega) only[push_cast,qE,h0,h4,h6]
   rw[Vc]
   simp (disch:=omega) only[push_cast,qE,h0]
   exact no fun x hx hb=>by have:=(finQ x hx hb).1.odd; omega
  simp (disch:=omega) only[push_cast,qE,h0,h4,h6]
  refine gF rfl (fun c2=>?_) (fun c2=>?_)
  rotate_left
  ·simp (disch:=omega) only[push_cast,qE,h0,h4,h6]
   rw[Vc]
   simp (disch:=omega) only[push_cast,qE,h0]
   exact no fun x hx hb=>by have:=(finQ x hx hb).1.lt; omega
  simp (disch:=omega) only[push_cast,qE,h0,h4,h6]
  refine gF rfl (fun c3=>?_) (fun c3=>?_)
  rotate_left
  ·simp (disch:=omega) only[push_cast,qE,h0,h4,h6]
   rw[Vc]
   simp (disch:=omega) only[push_cast,qE,h0]
   exact no fun x hx hb=>by have:=(finQ x hx hb).1.lo; omega
  simp (disch:=omega) only[push_cast,qE,h0,h4,h6]
  rw[Vc]
  simp (disch:=omega) only[push_cast,qE,h0,h4,h6]
  refine cdD (fun c4=>?_) (fun c4=>?_)
  ·simp (disch:=omega) only[push_cast,qE,h0]
   exact no fun x hx hb=>by have h1:=(finQ x hx hb).1.hi; have h2:=(finQ x hx hb).1.len; omega
  refine forget (fun e=>e 0=str row∧e 6=.int .u64 (sgN sg)∧e 14=.int .u64 m∧e 16=i64 a) ⟨h0,h6,rfl,rfl⟩ ?_
  clear h0 h4 h6 e
  rintro e ⟨h0,h6,h14,h16⟩
  obtain ⟨lg,hlg⟩:∃ lg,blen m=lg:=⟨_,rfl⟩
  have hl1:1≤lg:=by rw[← hlg]; exact (blen_spec (by omega)).2.2
  have hl2:lg≤53:=by rw[← hlg]; exact blen_le (k:=53) (by omega)
  simp (disch:=omega) only[push_cast,qE,h0,h6,h14,h16]
  refine callV en_131 (cIs (v:=i64 lg) (fun w' hw'=>by rw[← hlg]; exact len64_walk w' m (by omega)) ?_)
  simp (disch:=omega) only[push_cast,qE,h0,h6,h14,h16]
  refine forget (fun e=>e 0=str row∧e 6=.int .u64 (sgN sg)∧e 14=.int .u64 m∧e 16=i64 a∧e 18=i64 lg∧e 19=i64 (a+lg - 1)) ⟨h0,h6,h14,h16,rfl,rfl⟩ ?_
  clear h0 h6 h14 h16 e
  rintro e ⟨h0,h6,h14,h16,h18,h19⟩
  refine cutV (fun wb' e' ds' L'=>a+(lg:Int) - 1≤1023∧FgJ wb row (sgN sg+(bitsOf m a:Nat)) wb' e' ds' L') ?_ ?_
  ·rw[Vb]
   simp (disch:=omega) only[push_cast,qE,h0,h6,h14,h16,h18,h19]
   rw[Vc]
   simp (disch:=omega) only[push_cast,qE,h0,h6,h14,h16,h18,h19]
   refine cdD (fun ht=>?_) (fun ht=>?_)
   ·simp (disch:=omega) only[push_cast,qE,h0]
    exact no fun x hx hb=>by have h1:=(finQ x hx hb).1.hi; omega
   have hbl2:bitsOf m a < 9223372036854775808:=bitsOf_lt (by omega) (by omega) (by omega) (by omega)
   simp (disch:=omega) only[push_cast,qE,h0,h6,h14,h16,h18,h19]
   rw[Vc]
   simp (disch:=omega) only[push_cast,qE,h0,h6,h14,h16,h18,h19]
   refine cdD (fun hn=>?_) (fun hn=>?_)
   ·have e1:IntKind.u64.wrap (a+lg - 1+1023)=(((a+lg+1022).toNat:Nat):Int):=by rw[show IntKind.u64.wrap (a+lg - 1+1023)=_ from IntKind.wrap_u64 _]; omega
    obtain ⟨ex,hex⟩:∃ ex,(a+lg+1022).toNat=ex:=⟨_,rfl⟩
    obtain ⟨s1,s2⟩:=scale (m:=m) (by omega) (by omega)
    rw[hlg] at s1 s2
    obtain ⟨sm,hsm⟩:∃ sm,m * 2 ^ (53 - lg)=sm:=⟨_,rfl⟩
    have hj:(53 - (lg:Int)).toNat=53 - lg:=by omega
    have hb2:bitsOf m a=ex * 4503599627370496+(sm - 4503599627370496):=by unfold bitsOf; rw[hlg,if_pos (by omega),hex,hsm]
    rw[hex] at e1
    obtain ⟨hi,hhi⟩:∃ hi,ex * 4503599627370496=hi:=⟨_,rfl⟩
    obtain ⟨lw,hlw⟩:∃ lw,sm - 4503599627370496=lw:=⟨_,rfl⟩
    rw[hhi,hlw] at hb2
    simp (disch:=omega) only[push_cast,qE,h0,h6,h14,h16,h18,h19,e1]
    refine Eq.mpr (shlE _ _ _ ex (by omega)) ?_
    rw[hhi]
    simp (disch:=omega) only[push_cast,qE,h0,h6,h14,h16,h18,h19]
    refine Eq.mpr (shlP _ _ _ m _ (by omega) (by omega) (by rw[hj]; omega)) ?_
    rw[hj,hsm]
    simp (disch:=omega) only[push_cast,qE,h0,h6,h14,h16,h18,h19]
    refine Eq.mpr (and52 _ _ _ _ (by omega) (by omega)) ?_
    rw[show (sm:Int) % 4503599627370496=(lw:Int) by omega]
    refine Eq.mpr (orG ..) ?_
    rw[orHi (by omega) hhi (by omega),← hb2]
    simp (disch:=omega) only[push_cast,qE,h0,h6]
    refine Eq.mpr (orG ..) ?_
    rw[orSg hbl2]
    simp (disch:=omega) only[push_cast,qE,h0,h6]
    exact ⟨by omega,rfl,rfl,rfl,h0,rfl⟩
   ·obtain ⟨sm,hsm⟩:∃ sm,m * 2 ^ (a+1074).toNat=sm:=⟨_,rfl⟩
    have hb2:bitsOf m a=sm:=by unfold bitsOf; rw[hlg,if_neg (by omega),hsm]
    simp (disch:=omega) only[push_cast,qE,h0,h6,h14,h16,h18,h19]
    refine Eq.mpr (shlP _ _ _ m _ (by omega) (by omega) (by rw[hsm]; omega)) ?_
    rw[hsm]
    simp (disch:=omega) only[push_cast,qE,h0,h6,h14,h16,h18,h19]
    refine Eq.mpr (orG ..) ?_
    rw[← hb2,orSg hbl2]
    simp (disch:=omega) only[push_cast,qE,h0,h6]
    exact ⟨by omega,rfl,rfl,rfl,h0,rfl⟩
  clear h0 h6 h14 h16 h18 h19 e
  rintro wb' e ds L ⟨ht,rfl,rfl,rfl,h0,h6⟩
  have hbl2:bitsOf m a < 9223372036854775808:=bitsOf_lt (by omega) (by omega) (by omega) (by omega)
  have ew:=flI_wrap (sg:=sg) hbl2
  have hfr:=flI_range (sg:=sg) hbl2
  simp (disch:=omega) only[push_cast,qE,h0,h6,ew]
  refine callV en_49 (cIs (fun w' hw'=>float_walk w' (hl.mono hw' (by simp)) _ hfr.1 hfr.2) ?_)
  simp (disch:=omega) only[push_cast,qE,h0,h6,ew]
  exact finEx (by simp) fun w' _=>FlS.dec hsg hbody hbl2 fun y hy hb=>(finQ y hy hb).2
end Go.Proofs.YtilejcofleeeiaaGreatDoor
