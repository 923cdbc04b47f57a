/- YtilejcofleeeiaaGreatDoor: walks, part 223: the text of a floating-point number: the program's. -/
import Derived.Test.YtilejcofleeeiaaGreatDoorW213
import Derived.Laws.BitsAllLaws
namespace Go.Proofs.YtilejcofleeeiaaGreatDoor
open Go Go.K
open Nat renaming reduceEqDiff → qE
open List renaming length_cons → qN, length_append → qA, length_nil → qO
set_option maxRecDepth 100000
set_option linter.unusedVariables false
set_option linter.unusedSimpArgs false
set_option maxHeartbeats 4000000
theorem dig36_hex {n:Nat} (h:n < 16):dig36 (hexC n)=some n:=by
 have:∀ k:Fin 16,dig36 (hexC k.val)=some k.val:=by decide +kernel
 exact this ⟨n,h⟩
theorem parse16_app:∀ (a b:List UInt8) (acc:Nat),parse16 (a++b) acc=(parse16 a acc).bind (parse16 b)
 | [],b,acc=>rfl
 | c::a,b,acc=>by
  rw[List.cons_append,parse16,parse16]
  cases dig36 c with
  | none=>rfl
  | some d =>
   simp only
   split
   ·rfl
   ·exact parse16_app a b _
theorem parse16_hexs:∀ (m x:Nat),m≤15→x < 16 ^ m→parse16 (hexs x m) 0=some x
 | 0,x,hm,hx=>by simp at hx; rw[hx]; rfl
 | m+1,x,hm,hx=>by
  rw[Nat.pow_succ] at hx
  have hp:16 ^ m≤16 ^ 14:=Nat.pow_le_pow_right (by decide) (by omega)
  have h14:(16:Nat) ^ 14=72057594037927936:=rfl
  rw[hexs,parse16_app,parse16_hexs m (x / 16) (by omega) (by omega),Option.bind_some,parse16,dig36_hex (Nat.mod_lt _ (by decide))]
  simp only
  rw[if_neg (by omega),parse16]
  congr 1
  omega
theorem bin_err_nil {K:Value→Prop} (x:Operand):PureX Tryz.prog (binV .neq 91 x (.const .nilIface) .nilIface .nilIface) (tag K)=K (.bool false):=px (fun w=>by
 have h:(Op.equal 91 .nilIface .nilIface).run Tryz.prog w=.ok true w:=by
  show (Op.equalIn (9999+1) 91 .nilIface .nilIface).run Tryz.prog w=_
  unfold Op.equalIn
  simp only[underlying,Sem.run_bind,run_program,Result.andThen_ok,Tryz.underlying91,Sem.run_pure]
 simp[binV,eqGuard,binOp,h]) K
theorem bin_err_some {K:Value→Prop} (x:Operand) (te:TypeId) (pe:Value):PureX Tryz.prog (binV .neq 91 x (.const .nilIface) (.iface te pe) .nilIface) (tag K)=K (.bool true):=px (fun w=>by
 first
 | rfl
 | (simp[binV,eqGuard,binOp]; done)) K
def NumS (k:IntKind) (p:Option Int) (lo hi:Int) (v:Value):Prop:=∃ n,lo≤n∧n < hi∧((p=some n∧v=.tuple #[.int k n,.nilIface])∨(p=none∧∃ te pe,v=.tuple #[.int k n,.iface te pe]))
def endO:Lib.NumEnd Nat→Option Int
 | .ok u=>some u
 | _=>none
def endI:Lib.NumEnd Int→Option Int
 | .ok u=>some u
 | _=>none
theorem parseUint_walk (w:World) (hl:LibV w) (s:List UInt8) (hs:s.length≤1000000):Calls Tryz.prog 108 #[str s,i64 10,i64 64] w (Rets w fun v _=>NumS .u64 (endO (Lib.parseUintB 64 s)) 0 18446744073709551616 v):=by
 cases h:Lib.parseUintB 64 s
 ·rename_i n
  have:=parseU_lt h
  refine (Any.strconv_ParseUint_10_at64_ok laysPU ⟨s.toArray⟩ (by show s.toArray.size≤_; rw[List.size_toArray]; omega) n h w).mono ?_
  rintro e w' ⟨rfl,rfl|rfl⟩
  ·exact ⟨_,rfl,Sy.refl _,n,by omega,by omega,.inl ⟨rfl,rfl⟩⟩
  ·exact ⟨_,rfl,Sy.of_below (Go.Joins.below_bytesWorld _ w _ _ (Nat.le_refl _)),n,by omega,by omega,.inl ⟨rfl,rfl⟩⟩
 ·obtain ⟨ev,h1,h2⟩:=hl.2.1 4 (.inl rfl)
  refine (Any.strconv_ParseUint_10_at64_syntax laysPU ⟨s.toArray⟩ (by show s.toArray.size≤_; rw[List.size_toArray]; omega) h ev w h1 h2).mono ?_
  rintro e w' ⟨N,rfl,_,_,hb⟩
  exact ⟨_,rfl,Sy.of_below hb,_,by decide,by decide,.inr ⟨rfl,_,_,rfl⟩⟩
 ·obtain ⟨ev,h1,h2⟩:=hl.2.1 5 (.inr rfl)
  refine (Any.strconv_ParseUint_10_at64_range laysPU ⟨s.toArray⟩ (by show s.toArray.size≤_; rw[List.size_toArray]; omega) h ev w h1 h2).mono ?_
  rintro e w' ⟨N,rfl,_,_,hb⟩
  exact ⟨_,rfl,Sy.of_below hb,_,by decide,by decide,.inr ⟨rfl,_,_,rfl⟩⟩
theorem parseInt_walk (w:World) (hl:LibV w) (s:List UInt8) (hs:s.length≤1000000):Calls Tryz.prog 109 #[str s,i64 10,i64 64] w (Rets w fun v _=>NumS .i64 (endI (Lib.parseIntB 64 s)) (-9223372036854775808) 9223372036854775808 v):=by
 cases h:Lib.parseIntB 64 s
 ·rename_i n
  have:=parseI_range h
  refine (Any.strconv_ParseInt_10_at64_ok laysPI ⟨s.toArray⟩ (by show s.toArray.size≤_; rw[List.size_toArray]; omega) n h w).mono ?_
  rintro e w' ⟨rfl,rfl|⟨t,rfl⟩⟩
  ·exact ⟨_,rfl,Sy.refl _,n,by omega,by omega,.inl ⟨rfl,rfl⟩⟩
  ·exact ⟨_,rfl,Sy.of_below (Go.Joins.below_bytesWorld _ w _ t (Nat.le_refl _)),n,by omega,by omega,.inl ⟨rfl,rfl⟩⟩
 ·obtain ⟨ev,h1,h2⟩:=hl.2.1 4 (.inl rfl)
  refine (Any.strconv_ParseInt_10_at64_syntax laysPI ⟨s.toArray⟩ (by show s.toArray.size≤_; rw[List.size_toArray]; omega) h ev w h1 h2).mono ?_
  rintro e w' ⟨N,rfl,_,_,hb⟩
  exact ⟨_,rfl,Sy.of_below hb,_,by decide,by decide,.inr ⟨rfl,_,_,rfl⟩⟩
 ·obtain ⟨ev,h1,h2⟩:=hl.2.1 5 (.inr rfl)
  refine (Any.strconv_ParseInt_10_at64_range laysPI ⟨s.toArray⟩ (by show s.toArray.size≤_; rw[List.size_toArray]; omega) h ev w h1 h2).mono ?_
  rintro e w' ⟨N,rfl,_,_,hb⟩
  have hsat : -9223372036854775808≤Lib.intSat 64 s∧Lib.intSat 64 s < 9223372036854775808:=by unfold Lib.intSat; split<;>decide
  exact ⟨_,rfl,Sy.of_below hb,_,hsat.1,hsat.2,.inr ⟨rfl,_,_,rfl⟩⟩
theorem atoi_walk (w:World) (hl:LibV w) (s:List UInt8) (hs:s.length≤1000000):Calls Tryz.prog 130 #[str s] w (Rets w fun v _=>NumS .i64 (endI (Lib.parseIntB 64 s)) (-9223372036854775808) 9223372036854775808 v):=by
 rw[← atoi_parseI]
 cases h:Lib.atoiAll s
 ·rename_i n
  have:=parseI_range (by rw[← atoi_parseI]; exact h)
  refine (Any.strconv_Atoi_ok laysAtoi ⟨s.toArray⟩ (by show s.toArray.size≤_; rw[List.size_toArray]; omega) n h w).mono ?_
  rintro e w' ⟨rfl,rfl|⟨t,rfl⟩⟩
  ·exact ⟨_,rfl,Sy.refl _,n,by omega,by omega,.inl ⟨rfl,rfl⟩⟩
  ·exact ⟨_,rfl,Sy.of_below (Go.Joins.below_bytesWorld _ w _ t (Nat.le_refl _)),n,by omega,by omega,.inl ⟨rfl,rfl⟩⟩
 ·obtain ⟨ev,h1,h2⟩:=hl.2.1 4 (.inl rfl)
  refine (Any.strconv_Atoi_syntax laysAtoi ⟨s.toArray⟩ (by show s.toArray.size≤_; rw[List.size_toArray]; omega) h ev w h1 h2).mono ?_
  rintro e w' ⟨N,rfl,_,_,hb⟩
  exact ⟨_,rfl,Sy.of_below hb,_,by decide,by decide,.inr ⟨rfl,_,_,rfl⟩⟩
 ·obtain ⟨ev,h1,h2⟩:=hl.2.1 5 (.inr rfl)
  refine (Any.strconv_Atoi_range laysAtoi ⟨s.toArray⟩ (by show s.toArray.size≤_; rw[List.size_toArray]; omega) h ev w h1 h2).mono ?_
  rintro e w' ⟨N,rfl,_,_,hb⟩
  have hsat : -9223372036854775808≤Lib.atoiSat s∧Lib.atoiSat s < 9223372036854775808:=by unfold Lib.atoiSat; split<;>decide
  exact ⟨_,rfl,Sy.of_below hb,_,hsat.1,hsat.2,.inr ⟨rfl,_,_,rfl⟩⟩
theorem parse16_walk (w:World) (hl:LibV w) (s:List UInt8) (hs:s.length≤1000000):Calls Tryz.prog 108 #[str s,i64 16,i64 64] w (Rets w fun v _=>NumS .u64 (if s=[] then none else (parse16 s 0).map fun n=>(n:Int)) 0 18446744073709551616 v):=by
 refine enterT (args:=[str s,i64 16,i64 64]) Tryz.func108 rfl Tryz.ntmps108 (congrArg Array.toList Tryz.results108) (by kernel_rfl) (by simp) (Sy.refl w) ?_
 refine sp ?_
 refine callV en_132 (callX_data (S:=fun _ v _=>P16S s v) (fun w' _=>parse16_in w' s hs) (fun w1 v w2 hw1 hw2 hw3 hS=>?_))
 rcases hS with ⟨u,hu,hne,hp,rfl⟩|⟨hno,n,k,n0,n1,hk,rfl⟩
 ·simp (disch:=omega) only[push_cast,qE,bin_err_nil]
  rw[Vc]
  refine sp ?_
  exact fun w' hw'=>⟨_,rfl,(hw3.ext hw'),u,by omega,by omega,.inl ⟨by rw[if_neg hne,hp]; rfl,rfl⟩⟩
 ·simp (disch:=omega) only[push_cast,qE,bin_err_some]
  rw[Vc]
  refine sp ?_
  have hno':(if s=[] then none else (parse16 s 0).map fun n=>(n:Int))=none:=by
   rcases hno with h|h
   ·rw[if_pos h]
   ·rw[h]; split<;>rfl
  rw[hno']
  have hl2:=hl.mono hw3 (by simp)
  have hsz:(⟨s.toArray⟩:ByteArray).size≤281474976710656:=by show s.toArray.size≤_; rw[List.size_toArray]; omega
  refine callV en_133 (callX_data (S:=fun _ v _=>∃ te pe,v=.iface te pe) (fun w' hw'=>?_) (fun w4 v w5 hw4 hw5 hw6 hS=>?_))
  ·have hl3:=hl2.mono hw' (by simp)
   rcases hk with rfl|rfl
   ·obtain ⟨ev,e1,e2⟩:=hl3.2.1 5 (.inr rfl)
    refine (AnyPu.strconv_toError_range { laysPU with } ⟨#[80,97,114,115,101,85,105,110,116]⟩ ⟨s.toArray⟩ 16 64 ev w' hsz e1 e2).mono ?_
    rintro e w7 ⟨N,rfl,_,_,hb⟩
    exact ⟨_,rfl,Sy.of_below hb,_,_,rfl⟩
   ·obtain ⟨ev,e1,e2⟩:=hl3.2.1 4 (.inl rfl)
    refine (AnyPu.strconv_toError_syntax { laysPU with } ⟨#[80,97,114,115,101,85,105,110,116]⟩ ⟨s.toArray⟩ 16 64 ev w' hsz e1 e2).mono ?_
    rintro e w7 ⟨N,rfl,_,_,hb⟩
    exact ⟨_,rfl,Sy.of_below hb,_,_,rfl⟩
  ·obtain ⟨te,pe,rfl⟩:=hS
   refine sp ?_
   exact fun w' hw'=>⟨_,rfl,(hw3.ext (hw6.ext hw')),n,n0,n1,.inr ⟨rfl,te,pe,rfl⟩⟩
theorem cutPrefix_walk (w:World) (l p:List UInt8):Calls Tryz.prog 128 #[str l,str p] w (Rets w (Is (.tuple #[str (Lib.trimPrefix l p),.bool (Lib.hasPrefix l p)]))):=by
 refine (Any.strings_CutPrefix laysCutP ⟨l.toArray⟩ ⟨p.toArray⟩ w).mono ?_
 rintro e w' ⟨rfl,rfl⟩
 exact ⟨_,rfl,Sy.refl _,rfl⟩
theorem hasPrefix_walk (w:World) (l p:List UInt8):Calls Tryz.prog 105 #[str l,str p] w (Rets w (Is (.bool (Lib.hasPrefix l p)))):=by
 refine (Any.strings_HasPrefix laysPre ⟨l.toArray⟩ ⟨p.toArray⟩ w).mono ?_
 rintro e w' ⟨rfl,rfl⟩
 exact ⟨_,rfl,Sy.refl _,rfl⟩
theorem indexByte_walk (w:World) (l:List UInt8) (c:UInt8):Calls Tryz.prog 150 #[str l,.int .u8 c.toNat] w (Rets w (Is (i64 (Lib.indexByte l c)))):=by
 have h:=Any.strings_IndexByte laysIdx ⟨l.toArray⟩ (c.toNat:Int) w
 refine h.mono ?_
 rintro e w' ⟨rfl,rfl⟩
 refine ⟨_,rfl,Sy.refl _,?_⟩
 show i64 (Lib.indexByte l (((c.toNat:Int).toNat).toUInt8))=_
 rw[Int.toNat_natCast,show (c.toNat.toUInt8)=c from UInt8.ofNat_toNat]
theorem bitLen_blen (x:Nat) (h:x < 18446744073709551616):Lib.bitLen x=blen x:=by
 by_cases h0:x=0
 ·subst h0; rfl
 ·obtain ⟨b1,b2,b3⟩:=blen_spec (m:=x) (by omega)
  have h64:blen x≤64:=blen_le (k:=64) (by have:(2:Nat) ^ 64=18446744073709551616:=rfl; omega)
  rw[Lib.bitLen_shift (blen x - 1) x b1 (by have:(2:Nat) ^ 64=18446744073709551616:=rfl; omega)]
  have hq:x / 2 ^ (blen x - 1)=1:=by
   refine Nat.div_eq_of_lt_le (by omega) ?_
   rw[show (1+1) * 2 ^ (blen x - 1)=2 ^ (blen x - 1+1) by rw[Nat.pow_succ]; omega,show blen x - 1+1=blen x by omega]
   exact b2
  rw[hq,show Lib.bitLen 1=1 from rfl]
  omega
theorem len64_walk (w:World) (x:Nat) (h:x < 18446744073709551616):Calls Tryz.prog 131 #[.int .u64 x] w (Rets w (Is (i64 (blen x)))):=by
 refine (Any.bits_Len64 laysLen x w (by omega) (by omega)).mono ?_
 rintro e w' ⟨rfl,rfl⟩
 exact ⟨_,rfl,Sy.refl _,congrArg i64 (by rw[Int.toNat_natCast,bitLen_blen x h])⟩
theorem decode_walk (w:World) (hT:TabsAt w) (l:List UInt8) (hne:l≠[]):Calls Tryz.prog 104 #[str l] w (Rets w (Is (.tuple #[.int .i32 (Lib.decodeL l).1,i64 (Lib.decodeL l).2]))):=by
 refine (Any.utf8_DecodeRuneInString laysDec ⟨l.toArray⟩ w hT).mono ?_
 rintro e w' ⟨rfl,hb⟩
 refine ⟨_,rfl,Sy.of_below hb,?_⟩
 have:Lib.decodeGo ⟨l.toArray⟩=Lib.decodeL l:=by
  unfold Lib.decodeGo
  rw[if_neg (by show ¬ l.toArray.size=0; rw[List.size_toArray]; exact fun h=>hne (List.eq_nil_of_length_eq_zero h))]
  rfl
 rw[this]
theorem index_one:∀ (u:List UInt8) (c:UInt8) (v:List UInt8),(∀ x∈u,x≠c)→Lib.index (u++c::v) [c]=u.length
 | [],c,v,h=>by
  show Lib.index (c::v) [c]=_
  unfold Lib.index
  rw[if_pos (by simp)]
  rfl
 | x::u,c,v,h=>by
  have ih:=index_one u c v (fun y hy=>h y (.tail _ hy))
  show Lib.index (x::(u++c::v)) [c]=_
  unfold Lib.index
  rw[if_neg (by simp only[List.isPrefixOf,Bool.and_true,beq_iff_eq]; exact fun e=>h x (.head _) e.symm),ih]
  simp
theorem cut_one (u:List UInt8) (c:UInt8) (v:List UInt8) (h:∀ x∈u,x≠c):Lib.cut (u++c::v) [c]=(u,v,true):=by
 unfold Lib.cut
 rw[index_one u c v h,if_pos (by omega)]
 simp
section
variable {P:Program} {K:Value→Prop}
theorem bshr (k yk:IntKind) (t:TypeId) (x y:Operand) (n c:Int) (h0:0≤c):PureX P (binV .shr t x y (.int k n) (.int yk c)) (tag K)=K (.int k (n / 2 ^ min c.toNat k.bits)):=px (fun w=>by simp[binV,eqGuard,binOp,shift_shr_any,h0]) K
theorem bshl (k yk:IntKind) (t:TypeId) (x y:Operand) (n c:Int) (h0:0≤c):PureX P (binV .shl t x y (.int k n) (.int yk c)) (tag K)=K (.int k (k.wrap (n * 2 ^ min c.toNat k.bits))):=px (fun w=>by simp[binV,eqGuard,binOp,shift_shl_any,h0]) K
theorem shr52 (t:TypeId) (x y:Operand) (n:Int):PureX P (binV .shr t x y (.int .u64 n) (.int .u64 52)) (tag K)=K (.int .u64 (n / 4503599627370496)):=bshr .u64 .u64 t x y n 52 (by decide)
theorem shr4 (t:TypeId) (x y:Operand) (n:Int):PureX P (binV .shr t x y (.int .u64 n) (.int .u64 4)) (tag K)=K (.int .u64 (n / 16)):=bshr .u64 .u64 t x y n 4 (by decide)
theorem shr4b (t:TypeId) (x y:Operand) (n:Int):PureX P (binV .shr t x y (.int .u8 n) (.int .u64 4)) (tag K)=K (.int .u8 (n / 16)):=bshr .u8 .u64 t x y n 4 (by decide)
theorem shr1 (t:TypeId) (x y:Operand) (n:Int):PureX P (binV .shr t x y (.int .u64 n) (.int .u64 1)) (tag K)=K (.int .u64 (n / 2)):=bshr .u64 .u64 t x y n 1 (by decide)
theorem bandM (j:Nat) (hj:2 ^ j≤18446744073709551616) (t:TypeId) (x y:Operand) (n:Int) (h0:0≤n) (h1:n < 18446744073709551616):PureX P (binV .and t x y (.int .u64 n) (.int .u64 ((2 ^ j - 1:Nat):Int))) (tag K)=K (.int .u64 (n % ((2 ^ j:Nat):Int))):=by
 have hp:0 < 2 ^ j:=Nat.two_pow_pos j
 have e:bits .and .u64 n ((2 ^ j - 1:Nat):Int)=n % ((2 ^ j:Nat):Int):=by
  obtain ⟨u,rfl⟩:∃ u:Nat,n=u:=⟨n.toNat,by omega⟩
  rw[u64_and_nat u (2 ^ j - 1) (by omega) (by omega),Nat.and_two_pow_sub_one_eq_mod]
  omega
 rw[← e]
 exact px (fun w=>rfl) K
theorem and1 (t:TypeId) (x y:Operand) (n:Int) (h0:0≤n) (h1:n < 18446744073709551616):PureX P (binV .and t x y (.int .u64 n) (.int .u64 1)) (tag K)=K (.int .u64 (n % 2)):=bandM 1 (by decide) t x y n h0 h1
theorem and15 (t:TypeId) (x y:Operand) (n:Int) (h0:0≤n) (h1:n < 18446744073709551616):PureX P (binV .and t x y (.int .u64 n) (.int .u64 15)) (tag K)=K (.int .u64 (n % 16)):=bandM 4 (by decide) t x y n h0 h1
theorem and2047 (t:TypeId) (x y:Operand) (n:Int) (h0:0≤n) (h1:n < 18446744073709551616):PureX P (binV .and t x y (.int .u64 n) (.int .u64 2047)) (tag K)=K (.int .u64 (n % 2048)):=bandM 11 (by decide) t x y n h0 h1
theorem and52 (t:TypeId) (x y:Operand) (n:Int) (h0:0≤n) (h1:n < 18446744073709551616):PureX P (binV .and t x y (.int .u64 n) (.int .u64 4503599627370495)) (tag K)=K (.int .u64 (n % 4503599627370496)):=bandM 52 (by decide) t x y n h0 h1
theorem or52 (t:TypeId) (x y:Operand) (n:Int) (h0:0≤n) (h1:n < 4503599627370496):PureX P (binV .or t x y (.int .u64 n) (.int .u64 4503599627370496)) (tag K)=K (.int .u64 (n+4503599627370496)):=by
 have e:bits .or .u64 n 4503599627370496=n+4503599627370496:=by
  rw[u64_or _ _ h0 (by omega) (by decide) (by decide),Nat.or_comm,show (4503599627370496:Int).toNat=4503599627370496 from rfl,nat_join 52 4503599627370496 n.toNat (by decide) (by omega)]
  omega
 rw[← e]
 exact px (fun w=>rfl) K
theorem max_i (t u:TypeId) (x y:Int):PureX P (Builtin.max_ #[t,t] u #[i64 x,i64 y]) (tag K)=K (i64 (max x y)):=by
 refine px (v:=i64 (max x y)) (fun w=>?_) K
 simp[Builtin.max_,Builtin.max2,Sem.run_bind,Sem.run_pure]
 split<;>omega
theorem addS {t:TypeId} {x y:Operand} {l m:List UInt8} (h:l.length+m.length≤9223372036854775807) (hk:K (str (l++m))):PureX P (binV .add t x y (str l) (str m)) (tag K):=Eq.mpr (bin_str_add l m _ _ h) hk
end
theorem wrapU (n:Int) (h1 : -9223372036854775808≤n) (h2:n < 9223372036854775808):IntKind.u64.wrap n=(unsP n:Int):=by rw[IntKind.wrap_u64]; unfold unsP; omega
def hexL:List UInt8:=[48,49,50,51,52,53,54,55,56,57,97,98,99,100,101,102]
theorem hexL_one {k:Nat} (h:k < 16):(hexL.take (k+1)).drop k=[hexC k]:=by
 have:∀ j:Fin 16,(hexL.take (j.val+1)).drop j.val=[hexC j.val]:=by decide +kernel
 exact this ⟨k,h⟩
theorem slHex {K:Value→Prop} {kk:IntKind} {q:Nat} {i j:Int} (hi:i=q) (hj:j=q+1) (hq:q < 16) (hk:K (str [hexC q])):PureX Tryz.prog (Instr.sliceAt 9 (str hexL) (some (.int kk i)) (some (.int kk j)) none) (tag K):=by
 subst hi; subst hj
 refine Eq.mpr (slStr hexL kk Tryz.underlying9 q (q+1) (by omega) (by omega) (by show (q:Int)+1≤(16:Nat); omega)) ?_
 rw[show ((q:Int)+1).toNat=q+1 by omega,Int.toNat_natCast,hexL_one hq]
 exact hk
theorem hexL_get {k:Nat} (h:k < 16):hexL[k]?=some (hexC k):=by
 have:∀ j:Fin 16,hexL[j.val]?=some (hexC j.val):=by decide +kernel
 exact this ⟨k,h⟩
theorem hexs_cons:∀ (m x:Nat),hexs x (m+1)=hexC (x / 16 ^ m % 16)::hexs x m
 | 0,x=>by simp[hexs]
 | m+1,x=>by
  rw[hexs,hexs_cons m (x / 16),Nat.div_div_eq_div_mul,show 16 * 16 ^ m=16 ^ (m+1) by rw[Nat.pow_succ]; omega]
  rfl
theorem mag_uns (n:Int) (h1 : -9223372036854775808≤n) (h2:n < 9223372036854775808):unsP n / 4503599627370496 % 2048=magU n / 4503599627370496∧unsP n % 4503599627370496=magU n % 4503599627370496∧magU n < 9223372036854775808:=by
 unfold unsP magU; omega
def sgn (n:Int):List UInt8:=if n < 0 then [45] else []
structure FlZ (w0:World) (n:Int) (wb:World) (e:Env) (ds:List Deferred) (L:Own):Prop where
 hw:wb=w0
 hds:ds=[]
 o:L=[]
 h0:e 0=i64 n
 h3:e 3=str (sgn n)
structure FlN (w0:World) (x:Nat) (sg:List UInt8) (i:Nat) (wb:World) (e:Env) (ds:List Deferred) (L:Own):Prop where
 hw:wb=w0
 hds:ds=[]
 o:L=[]
 hi:i≤13
 h3:e 3=str sg
 h5:e 5=.int .u64 (x / 16 ^ i:Nat)
 h6:e 6=str (hexs x i)
 h30:e 30=i64 i
structure FlM (w0:World) (sg:List UInt8) (m0:Nat) (a0:Int) (m:Nat) (a:Int) (wb:World) (e:Env) (ds:List Deferred) (L:Own):Prop where
 hw:wb=w0
 hds:ds=[]
 o:L=[]
 hm:0 < m∧m < 9007199254740992
 hq:m0=m / 2 ^ twos 64 m∧a0=a+twos 64 m
 ha : -1074≤a∧a≤1100
 h3:e 3=str sg
 h5:e 5=.int .u64 m
 h7:e 7=i64 a
structure FlB (w0:World) (sg:List UInt8) (pw pt:Nat) (wb:World) (e:Env) (ds:List Deferred) (L:Own):Prop where
 hw:wb=w0
 hds:ds=[]
 o:L=[]
 hk:pw≠2047∧¬ (pw=0∧pt=0)
 h3:e 3=str sg
 h4:e 4=i64 pw
 h5:e 5=.int .u64 ((if pw=0 then pt else pt+4503599627370496:Nat):Int)
theorem float_walk (w:World) (hl:LibV w) (n:Int) (h1 : -9223372036854775808≤n) (h2:n < 9223372036854775808):Calls Tryz.prog 49 #[i64 n] w (Rets w (Is (str (floatT n)))):=by
 refine enterT (args:=[i64 n]) Tryz.func49 rfl Tryz.ntmps49 (congrArg Array.toList Tryz.results49) (by kernel_rfl) (by simp) (Sy.refl w) ?_
 refine sp ?_
 refine cutV (FlZ w n) ?_ ?_
 ·rw[Vc]
  refine sp ?_
  refine cdD (fun h=>?_) (fun h=>?_)
  ·refine sp ?_
   exact ⟨rfl,rfl,rfl,rfl,congrArg str (show [45]=sgn n by unfold sgn; rw[if_pos h])⟩
  ·refine sp ?_
   exact ⟨rfl,rfl,rfl,rfl,congrArg str (show []=sgn n by unfold sgn; rw[if_neg h])⟩
 rintro wb e ds L ⟨rfl,rfl,rfl,h0,h3⟩
 obtain ⟨m1,m2,m3⟩:=mag_uns n h1 h2
 have hlm:(magU n) / 4503599627370496≤2047:=by omega
 have hut:(unsP n) < 18446744073709551616:=by unfold unsP; omega
 have hT:floatT n=sgn n++floatU (magU n):=by unfold floatT sgn; split<;>rfl
 have hsg:(sgn n).length≤1:=by unfold sgn; split<;>simp
 obtain ⟨pw,hpw⟩:∃ pw,magU n / 4503599627370496=pw:=⟨_,rfl⟩
 obtain ⟨pt,hpt⟩:∃ pt,magU n % 4503599627370496=pt:=⟨_,rfl⟩
 obtain ⟨u,hu⟩:∃ u,unsP n=u:=⟨_,rfl⟩
 have ew:IntKind.u64.wrap n=(u:Int):=by rw[wrapU n h1 h2,hu]
 have e1:(u:Int) / 4503599627370496 % 2048=(pw:Int):=by omega
 have e2:(u:Int) % 4503599627370496=(pt:Int):=by omega
 have hptl:pt < 4503599627370496:=by omega
 have hL:∀ p∈([]:Own),wb.heap.size≤p.1:=by simp
 simp (disch:=omega) only[push_cast,qE,h0,ew,shr52,and2047,and52,e1,e2]
 refine forget (fun e=>e 3=str (sgn n)∧e 4=i64 pw∧e 5=.int .u64 pt) ⟨h3,rfl,rfl⟩ ?_
 clear h0 h3 e
 rintro e ⟨h3,h4,h5⟩
 refine cutV (FlB wb (sgn n) pw pt) ?_ ?_
 ·rw[Vb]
  simp (disch:=omega) only[push_cast,qE,h4,h5]
  refine gT rfl (fun hA=>?_) (fun hA=>?_)
  ·have fu:floatU (magU n)=if pt=0 then [105,110,102] else [110,97,110]++hexs pt 13:=by unfold floatU; rw[hpw,hpt,if_pos (by omega)]
   simp (disch:=omega) only[push_cast,qE,h4,h5]
   rw[Vc]
   simp (disch:=omega) only[push_cast,qE,h3,h4,h5]
   refine cdD (fun hB=>?_) (fun hB=>?_)
   ·simp (disch:=omega) only[push_cast,qE,h3]
    refine addS (m:=[105,110,102]) (by simp only[qN,qO,qA]; omega) ?_
    refine sp ?_
    exact finIs hL (by rw[hT,fu,if_pos (by omega)])
   simp (disch:=omega) only[push_cast,qE,h4]
   rw[Vc]
   simp (disch:=omega) only[push_cast,qE,h4]
   refine cdD (fun _=>?_) (fun h=>absurd hA h)
   simp (disch:=omega) only[push_cast,qE,h3,h5]
   rw[Vb]
   simp (disch:=omega) only[push_cast,qE,h3,h5]
   refine loopW (G:=Nat) (FlN wb pt (sgn n)) (fun i=>13 - i) 0 _ (fun w hw=>hw) (by kernel_rfl) ⟨rfl,rfl,rfl,by omega,h3,by rw[Nat.pow_zero,Nat.div_one]; exact h5,rfl,rfl⟩ ?_
   clear h3 h4 h5 e
   rintro i wb e ds L ⟨rfl,rfl,rfl,hi,h3,h5,h6,h30⟩
   simp (disch:=omega) only[push_cast,qE,h30]
   rw[Vc]
   simp (disch:=omega) only[push_cast,qE,h30]
   obtain ⟨q,hq⟩:∃ q,pt / 16 ^ i=q:=⟨_,rfl⟩
   have hql:q≤pt:=by rw[← hq]; exact Nat.div_le_self _ _
   rw[hq] at h5
   refine cdD (fun hlt=>?_) (fun hge=>?_)
   ·simp (disch:=omega) only[push_cast,qE,h5]
    rw[Vb]
    simp (disch:=omega) only[push_cast,qE,h5,and15]
    refine slHex (q:=q % 16) (by omega) (by rw[wu64 (by omega) (by omega)]; omega) (by omega) ?_
    simp (disch:=omega) only[push_cast,qE,h6]
    have hlen:=hexs_len i pt
    refine addS (by simp only[qN,qO,qA]; omega) ?_
    simp (disch:=omega) only[push_cast,qE,h5,h30,shr4]
    have hd2:pt / 16 ^ (i+1)=q / 16:=by rw[Nat.pow_succ,← Nat.div_div_eq_div_mul,hq]
    refine ⟨i+1,_,fun w hw=>hw,⟨rfl,rfl,rfl,by omega,h3,?_,?_,?_⟩,by omega⟩
    ·rw[hd2]; simp only[upd]; first|rfl|exact congrArg (Value.int .u64) (by omega)
    ·rw[hexs_cons,hq]; simp only[upd]; rfl
    ·simp only[upd]; first|rfl|exact congrArg i64 (by omega)
   ·obtain rfl:i=13:=by omega
    have hlen:=hexs_len 13 pt
    simp (disch:=omega) only[push_cast,qE,h3,h6]
    refine addS (m:=[110,97,110]) (by simp only[qN,qO,qA]; omega) ?_
    simp (disch:=omega) only[push_cast,qE,h6]
    refine addS (by simp only[qN,qO,qA]; omega) ?_
    refine sp ?_
    exact finIs hL (by rw[hT,fu,if_neg (by omega),List.append_assoc])
  ·simp (disch:=omega) only[push_cast,qE,h4,h5]
   rw[Vc]
   simp (disch:=omega) only[push_cast,qE,h4,h5]
   rw[Vc]
   simp (disch:=omega) only[push_cast,qE,h4,h5]
   refine cdD (fun h=>absurd h hA) (fun _=>?_)
   simp (disch:=omega) only[push_cast,qE,h4,h5]
   refine gT rfl (fun hB=>?_) (fun hB=>?_)
   ·simp (disch:=omega) only[push_cast,qE,h4,h5]
    rw[Vc]
    simp (disch:=omega) only[push_cast,qE,h3,h4,h5]
    refine cdD (fun hC=>?_) (fun hC=>?_)
    ·simp (disch:=omega) only[push_cast,qE,h3]
     refine addS (m:=[48,112,48]) (by simp only[qN,qO,qA]; omega) ?_
     refine sp ?_
     exact finIs hL (by rw[hT]; unfold floatU; rw[hpw,if_neg (by omega),if_pos (by omega)])
    simp (disch:=omega) only[push_cast,qE,h4]
    rw[Vc]
    simp (disch:=omega) only[push_cast,qE,h4]
    refine cdD (fun hD=>absurd hD (by omega)) (fun _=>?_)
    simp (disch:=omega) only[push_cast,qE,h4]
    exact ⟨rfl,rfl,rfl,⟨by omega,by omega⟩,h3,h4,by rw[if_pos (by omega)]; exact h5⟩
   ·simp (disch:=omega) only[push_cast,qE,h4,h5]
    rw[Vc]
    simp (disch:=omega) only[push_cast,qE,h3,h4,h5]
    rw[Vc]
    simp (disch:=omega) only[push_cast,qE,h4]
    refine cdD (fun hD=>?_) (fun hD=>absurd (show (0:Int) < pw by omega) hD)
    simp (disch:=omega) only[push_cast,qE,h4,h5,or52]
    exact ⟨rfl,rfl,rfl,⟨by omega,by omega⟩,h3,h4,by rw[if_neg (by omega)]; simp only[upd]; first|rfl|exact congrArg (Value.int .u64) (by omega)⟩
 ·clear h3 h4 h5 e
  rintro wb e ds L ⟨rfl,rfl,rfl,⟨k1,k2⟩,h3,h4,h5⟩
  have hlenT:=floatU_len m3
  have hlm:fracM (magU n)=if pw=0 then pt else pt+4503599627370496:=by unfold fracM; rw[hpw,hpt]
  have hle:expE (magU n)=max (pw:Int) 1 - 1075:=by unfold expE; rw[hpw]; omega
  have hx0:0 < magU n:=by omega
  have hxp:magU n / 4503599627370496 < 2047:=by omega
  obtain ⟨hfin,_⟩:=bits_forth hx0 hxp
  have hfu:floatU (magU n)=finT (oddM (magU n)) (oddE (magU n)):=by unfold floatU; rw[if_neg (by omega),if_neg (by omega)]
  have hf0:0 < fracM (magU n)∧fracM (magU n) < 9007199254740992:=by rw[hlm]; split<;>omega
  simp (disch:=omega) only[push_cast,qE,h4,max_i]
  rw[Vb]
  simp (disch:=omega) only[push_cast,qE,h4,max_i]
  refine loopW (G:=Nat×Int) (fun g=>FlM wb (sgn n) (oddM (magU n)) (oddE (magU n)) g.1 g.2) (fun g=>g.1) (fracM (magU n),expE (magU n)) _ (fun w hw=>hw) (by kernel_rfl) ⟨rfl,rfl,rfl,hf0,⟨rfl,rfl⟩,by rw[hle]; simp only; omega,h3,by rw[hlm]; exact h5,by rw[hle]; rfl⟩ ?_
  clear h3 h4 h5 e
  rintro ⟨m,a⟩ wb e ds L ⟨rfl,rfl,rfl,⟨c1,c2⟩,⟨q1,q2⟩,⟨b1,b2⟩,h3,h5,h7⟩
  simp only at c1 c2 q1 q2 b1 b2 h5 h7
  simp (disch:=omega) only[push_cast,qE,h5,and1]
  rw[Vc]
  simp (disch:=omega) only[push_cast,qE,h5]
  refine cdD (fun hev=>?_) (fun hodd=>?_)
  ·simp (disch:=omega) only[push_cast,qE,h5]
   rw[Vb]
   simp (disch:=omega) only[push_cast,qE,h5,h7,shr1]
   obtain ⟨t1,t2,t3⟩:=twos_spec 64 m c1 (by have:(2:Nat) ^ 64=18446744073709551616:=rfl; omega)
   have ht:twos 64 m=twos 63 (m / 2)+1:=by rw[twos,if_pos (by omega)]
   have ht2:twos 64 (m / 2)=twos 63 (m / 2):=by
    obtain ⟨r1,r2,r3⟩:=twos_spec 63 (m / 2) (by omega) (by have:(2:Nat) ^ 63=9223372036854775808:=rfl; omega)
    conv=>lhs; rw[r1]
    exact twos_mul _ 64 _ r2 (by omega)
   have hab:a+1≤1100:=by have:=hfin.hi; have:=hfin.len; omega
   refine ⟨(m / 2,a+1),_,fun w hw=>hw,⟨rfl,rfl,rfl,⟨by simp only; omega,by simp only; omega⟩,⟨?_,?_⟩,⟨by simp only; omega,hab⟩,h3,?_,?_⟩,by simp only; omega⟩
   ·rw[q1,ht,ht2,Nat.pow_succ,Nat.mul_comm,← Nat.div_div_eq_div_mul]
   ·rw[q2,ht,ht2]; push_cast; omega
   ·simp only[upd]; first|rfl|exact congrArg (Value.int .u64) (by omega)
   ·simp only[upd]; first|rfl|exact congrArg i64 (by omega)
  ·have hm:oddM (magU n)=m:=by rw[q1,twos_odd (by omega),Nat.pow_zero,Nat.div_one]
   have ha:oddE (magU n)=a:=by rw[q2,twos_odd (by omega)]; simp
   have hl1:=dec_len (u:=m) (by omega)
   have hl2:=itoa_len (n:=a) (by omega) (by omega)
   simp (disch:=omega) only[push_cast,qE,h3,h5]
   refine callV en_48 (cIs (fun w' hw'=>formatUint_walk w' (hl.mono hw' (by simp)) m (by omega)) ?_)
   simp (disch:=omega) only[push_cast,qE,h3]
   refine addS (m:=[112]) (by simp only[qN,qO,qA]; omega) ?_
   simp (disch:=omega) only[push_cast,qE,h7]
   refine callV en_87 (cIs (fun w' hw'=>itoa_walk w' (hl.mono hw' (by simp)) a (by omega) (by omega)) ?_)
   refine sp ?_
   refine addS (by simp only[qN,qO,qA]; omega) ?_
   refine sp ?_
   exact finIs hL (by rw[hT,hfu,hm,ha]; unfold finT; simp)
end Go.Proofs.YtilejcofleeeiaaGreatDoor
