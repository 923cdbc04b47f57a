/- YtilejcofleeeiaaGreatDoor: walks, part 97: the reference's: kinds and their ranges; does a value fit a field that may be. -/
import Derived.Test.YtilejcofleeeiaaGreatDoorW211
import Derived.Test.YtilejcofleeeiaaGreatDoorW213
namespace Go.Proofs.YtilejcofleeeiaaGreatDoor
open Go Go.K
open Nat renaming reduceEqDiff → qE
open List renaming getElem?_eq_getElem → qH
set_option maxRecDepth 100000
set_option linter.unusedVariables false
set_option linter.unusedSimpArgs false
set_option maxHeartbeats 4000000
theorem number_k_walk (w:World) (k:Int):Calls Tryz.prog 59 #[i64 k] w (Rets w (Is (.bool (decide (2≤k) && decide (k≤11))))):=by
 refine enterT (args:=[i64 k]) Tryz.func59 rfl Tryz.ntmps59 (congrArg Array.toList Tryz.results59) (by kernel_rfl) (by simp) (Sy.refl w) ?_
 refine sp ?_
 repeat' (first|((first|((first|refine gT rfl ?_ ?_|refine gF rfl ?_ ?_|refine cdD ?_ ?_)<;>intro h)|((first|refine gbT rfl ?_ ?_|refine gbF rfl ?_ ?_|refine cdB ?_ ?_)<;>intro h<;>(try subst h))|refine lOa Shp.eq rfl ?_|refine lAa Shp.eq rfl rfl ?_|refine newI (fun b hb hn=>?_)|refine sXb Siz.eq rfl rfl ?_)<;>simp (disch:=omega) only[push_cast,qE])|(first|rw[Vc]|rw[Vb])<;>(try simp (disch:=omega) only[push_cast,qE]))
 all_goals refine finIs (by simp) (congrArg Value.bool ?_)
 ·simp[h]
 ·simp; omega
def kindN (k n:Int):Bool:=if k=2 then decide (n=0∨n=1) else if k=11 then true else rangedP k n
theorem kindN_iff (k n:Int) (hk:2≤k∧k≤11):kindN k n=true↔(k=2∧(n=0∨n=1))∨(k=3∧-128≤n∧n≤127)∨(k=4∧-32768≤n∧n≤32767)∨(k=5∧-2147483648≤n∧n≤2147483647)∨k=6∨(k=7∧0≤n∧n≤255)∨(k=8∧0≤n∧n≤65535)∨(k=9∧0≤n∧n≤4294967295)∨k=10∨k=11:=by
 obtain rfl|rfl|hk3:k=2∨k=11∨(3≤k∧k≤10):=by omega
 ·simp[kindN]
 ·simp[kindN]
 ·unfold kindN
  rw[if_neg (by omega),if_neg (by omega)]
  rcases kinds8 hk3 with rfl|rfl|rfl|rfl|rfl|rfl|rfl|rfl
  ·rw[show rangedP 3 n=(decide ((-128:Int)≤n) && decide (n < 128)) from rfl]; simp; omega
  ·rw[show rangedP 4 n=(decide ((-32768:Int)≤n) && decide (n < 32768)) from rfl]; simp; omega
  ·rw[show rangedP 5 n=(decide ((-2147483648:Int)≤n) && decide (n < 2147483648)) from rfl]; simp; omega
  ·simp[rangedP]
  ·rw[show rangedP 7 n=(decide ((0:Int)≤n) && decide (n < 256)) from rfl]; simp; omega
  ·rw[show rangedP 8 n=(decide ((0:Int)≤n) && decide (n < 65536)) from rfl]; simp; omega
  ·rw[show rangedP 9 n=(decide ((0:Int)≤n) && decide (n < 4294967296)) from rfl]; simp; omega
  ·simp[rangedP]
theorem rangedR_walk (w:World) (k n:Int) (hk:2≤k∧k≤11):Calls Tryz.prog 94 #[i64 k,i64 n] w (Rets w (Is (.bool (kindN k n)))):=by
 refine enterT (args:=[i64 k,i64 n]) Tryz.func94 rfl Tryz.ntmps94 (congrArg Array.toList Tryz.results94) (by kernel_rfl) (by simp) (Sy.refl w) ?_
 refine sp ?_
 rw[Vb]
 refine sp ?_
 repeat' (first|((first|((first|refine gT rfl ?_ ?_|refine gF rfl ?_ ?_|refine cdD ?_ ?_)<;>intro h)|((first|refine gbT rfl ?_ ?_|refine gbF rfl ?_ ?_|refine cdB ?_ ?_)<;>intro h<;>(try subst h))|refine lOa Shp.eq rfl ?_|refine lAa Shp.eq rfl rfl ?_|refine newI (fun b hb hn=>?_)|refine sXb Siz.eq rfl rfl ?_)<;>simp (disch:=omega) only[push_cast,qE])|(first|rw[Vc]|rw[Vb])<;>(try simp (disch:=omega) only[push_cast,qE]))
 all_goals refine finIs (by simp) (congrArg Value.bool ?_)
 all_goals rw[Bool.eq_iff_iff,kindN_iff k n hk]
 all_goals simp only[decide_eq_true_eq,true_iff,Bool.false_eq_true,false_iff]
 all_goals omega
theorem nullable_walk:∀ (d:Nat) (w:World) (lo:Nat) (f:Fld) (a:Option Addr) (c:Nat),lo≤w.heap.size→okD d f→FlAt w lo f a c →
 Calls Tryz.prog 58 #[.agg (f.cells a c).toArray] w (Rets w (Is (.bool (letsP f)))):=by
 intro d
 induction d with
 | zero=>intro w lo f a c hlo hok; exact absurd hok (by simp[okD])
 | succ d ih =>
 intro w lo f a c hlo hok hA
 obtain ⟨hsh,hsub⟩:=(show shapedF f∧∀ g∈f.sub,okD d g from hok)
 refine enterT (args:=[.agg (f.cells a c).toArray]) Tryz.func58 rfl Tryz.ntmps58 (congrArg Array.toList Tryz.results58) (by kernel_rfl) (by simp) (Sy.refl w) ?_
 simp (disch:=omega) only[push_cast,qE,Fld.cells]
 refine newI (fun b1 hb1 hn1=>?_)
 simp (disch:=omega) only[push_cast,qE,Fld.cells]
 have hL:∀ x:Obj,∀ p∈[(b1,x)],w.heap.size≤p.1:=fun x p hp=>by rw[List.mem_singleton.1 hp]; exact hb1
 refine lOn Shp.eq mem0 rfl ?_
 refine sp ?_
 rw[Vc]
 refine sp ?_
 refine cdD (fun hk=>?_) (fun hk=>?_)
 ·have hlen:f.sub.length=1:=by
   have h1:=hsh.2.2.2
   rw[hk] at h1; simp[leastK,mostK] at h1; omega
  obtain ⟨g,hg⟩:∃ g,f.sub[0]?=some g:=⟨_,qH (by omega)⟩
  obtain ⟨gb,goff,ga,gc,rfl,g1,g2,g3⟩:=hA.get hg
  rw[Nat.zero_mul,Nat.add_zero] at g2
  refine sp ?_
  refine lOn Shp.eq mem0 rfl ?_
  refine sp ?_
  refine ldAggF Shp.eq g2 rfl (out_of (fun p hp=>Nat.lt_of_lt_of_le (Nat.lt_of_lt_of_le g1 hlo) (hL _ p hp))) ?_
  simp (disch:=omega) only[push_cast,qE,Fld.cells]
  refine callV en_58 (cIs (fun w' hw'=>ih w' lo g ga gc (Nat.le_trans hlo hw'.size) (hsub g (List.mem_of_getElem? hg)) (g3.sy hlo hw' (hL _))) ?_)
  refine sp ?_
  have hs:f.sub=[g]:=by
   obtain ⟨z,hz⟩:=List.length_eq_one_iff.1 hlen
   rw[hz] at hg ⊢; simpa using hg
  exact finIs (hL _) (congrArg Value.bool (lets_in hk hs).symm)
 ·have hout:=lets_out (f:=f) (fun h=>hk h.1)
  refine sp ?_
  refine lOn Shp.eq mem0 rfl ?_
  refine sp ?_
  rcases hnl:f.nl with _|_
  ·refine sp ?_
   exact finIs (hL _) (by rw[hout,hnl]; rfl)
  ·refine sp ?_
   refine lOn Shp.eq mem0 rfl ?_
   simp (disch:=omega) only[push_cast,qE,ne_eq]
   exact finIs (hL _) (by rw[hout,hnl]; simp)
def listD (d:Nat) (f:Fld) (v:Vl):Bool :=
 if f.k=18 then decide (v.ls.length=1) && (decide (0≤v.num) && (decide (v.num < f.sub.length) && (match f.sub[v.num.toNat]?,v.ls[0]? with|some g,some x=>fitD d g x|_,_=>false)))
 else if f.k=15∨f.k=16∨f.k=17 then decide (v.ls.length≤4096) && (decide (v.num=0) && itemsD d f v.ls) else false
theorem fit_lists {d:Nat} {f:Fld} {v:Vl} (hsh:shapedF f) (hn:v.nu=false) (h1:¬ (2≤f.k∧f.k≤14)) (h2:¬ (f.k=19∨f.k=20)):fitD (d+1) f v=(decide (v.tx=[]) && listD d f v):=by
 have hk1:1≤f.k:=hsh.1.1
 have hk2:f.k≤20:=hsh.1.2
 have hmost:(f.sub.length:Int)≤mostK f.k:=hsh.2.2.2.2
 rw[fitD,if_neg (by simp[hn]),if_neg h2]
 unfold listD
 by_cases h18:f.k=18
 ·rw[if_pos h18,if_pos h18,Bool.eq_iff_iff]
  simp only[Bool.and_eq_true,decide_eq_true_eq]
  constructor
  ·rintro ⟨_,q1,q2,q3,q4,q5⟩; exact ⟨q1,q4,q2,q3,q5⟩
  ·rintro ⟨q1,q4,q2,q3,q5⟩; exact ⟨by omega,q1,q2,q3,q4,q5⟩
 ·rw[if_neg h18,if_neg h18]
  by_cases hl:f.k=15∨f.k=16∨f.k=17
  ·rw[if_pos hl,if_pos hl]
   show (decide (v.ls.length≤4096) && (decide (v.num=0) && (decide (v.tx=[]) && itemsD d f v.ls)))=_
   rcases decide (v.ls.length≤4096)<;>rcases decide (v.num=0)<;>rcases decide (v.tx=[])<;>rfl
  ·rw[if_neg hl,if_neg hl,if_neg (by omega),if_neg (by omega),if_neg (by omega)]
   have:wholeP f.k=false:=by unfold wholeP; simp; omega
   rw[this]; simp
theorem fitD_len {d:Nat} {f:Fld} {v:Vl} (h:fitD d f v=true):v.ls.length≤4096:=by
 cases d with
 | zero=>simp[fitD] at h
 | succ d=>rw[fitD] at h; simp only[Bool.and_eq_true,decide_eq_true_eq] at h; exact h.1
theorem wV_get {v x:Vl} {i:Nat} (h:v.ls[i]?=some x):wV x+16≤wV v:=by
 have h1:=wL_take h
 have h2:=wL_take_le v.ls (i+1)
 rw[wV_eq v]
 omega
theorem fit_n {d:Nat} {f:Fld} {v:Vl} (hn:v.nu=false) (h:2≤f.k∧f.k≤11):fitD (d+1) f v=(decide (v.tx=[]) && (decide (v.ls=[]) && kindN f.k v.num)):=by
 rw[fitD,if_neg (by simp[hn]),if_neg (by omega),if_neg (by omega),if_neg (by omega),if_neg (by omega)]
 have hk:(if f.k=2 then decide (v.num=0∨v.num=1) else if f.k=11 then true else wholeP f.k && rangedP f.k v.num)=kindN f.k v.num:=by
  unfold kindN
  by_cases h2:f.k=2
  ·rw[if_pos h2,if_pos h2]
  ·rw[if_neg h2,if_neg h2]
   by_cases h11:f.k=11
   ·rw[if_pos h11,if_pos h11]
   ·rw[if_neg h11,if_neg h11]
    have:wholeP f.k=true:=by unfold wholeP; simp; omega
    rw[this,Bool.true_and]
 rw[hk]
 by_cases hz:v.ls=[]<;>simp[hz]
theorem fit_t {d:Nat} {f:Fld} {v:Vl} (hn:v.nu=false) (h:12≤f.k∧f.k≤14):fitD (d+1) f v=(decide (v.num=0) && (decide (v.ls=[]) && ((!decide (f.k=12) || Lib.validD v.tx) && (!decide (f.k=14) || decide ((v.tx.length:Int)=f.wd))))):=by
 rw[fitD,if_neg (by simp[hn]),if_neg (by omega),if_neg (by omega),if_neg (by omega),if_pos (by omega)]
 by_cases hz:v.ls=[]<;>simp[hz]
theorem fit_w {d:Nat} {f g:Fld} {v:Vl} (hn:v.nu=false) (h:f.k=19∨f.k=20) (hg:f.sub[0]?=some g):fitD (d+1) f v=fitD d g v:=by
 rw[fitD,if_neg (by simp[hn]),if_pos h,hg]
 rcases hb:fitD d g v with _|_
 ·simp[hb]
 ·simp[hb,fitD_len hb]
theorem listD_no {d:Nat} {f:Fld} {v:Vl} (h:¬ (15≤f.k∧f.k≤18)):listD d f v=false:=by
 unfold listD; rw[if_neg (by omega),if_neg (by omega)]
theorem nil_or (l:List Vl):(l=[]∧(l.length:Int)=0)∨(¬ l=[]∧¬ (l.length:Int)=0):=by
 cases l with
 | nil=>exact .inl ⟨rfl,rfl⟩
 | cons x l=>exact .inr ⟨by simp,by simp only[List.length_cons]; omega⟩
def FitsROK (d:Nat):Prop:=∀ (w:World) (lo:Nat) (f:Fld) (v:Vl) (a va:Option Addr) (c vc:Nat),lo≤w.heap.size→okD d f→FlAt w lo f a c→VAt w lo v va vc→wV v≤4194304 →
 Calls Tryz.prog 76 #[.agg (f.cells a c).toArray,.agg (v.cells va vc).toArray] w (Rets w (Is (.bool (fitD d f v))))
def ListROK (d:Nat):Prop:=∀ (w:World) (lo:Nat) (f:Fld) (v:Vl) (a va:Option Addr) (c vc:Nat),lo≤w.heap.size→okD (d+1) f→FlAt w lo f a c→VAt w lo v va vc→wV v≤4194304 →
 Calls Tryz.prog 111 #[.agg (f.tcells a c).toArray,.agg (v.cells va vc).toArray] w (Rets w (Is (.bool (listD d f v))))
theorem fitsR_step (d:Nat) (hF:FitsROK d) (hI:ListROK d):FitsROK (d+1):=by
 intro w lo f v a va c vc hlo hok hA hV hwt
 obtain ⟨hsh,hsub⟩:=(show shapedF f∧∀ g∈f.sub,okD d g from hok)
 refine enterT (args:=[.agg (f.cells a c).toArray,.agg (v.cells va vc).toArray]) Tryz.func76 rfl Tryz.ntmps76 (congrArg Array.toList Tryz.results76) (by kernel_rfl) (by simp) (Sy.refl w) ?_
 simp (disch:=omega) only[push_cast,qE,Fld.cells,Vl.cells]
 refine newI (fun b2 hb2 hn2=>?_)
 simp (disch:=omega) only[push_cast,qE,Fld.cells,Vl.cells]
 refine newI (fun b3 hb3 hn3=>?_)
 simp (disch:=omega) only[push_cast,qE,Fld.cells,Vl.cells]
 refine lAg Shp.eq mem1 rfl rfl ?_
 refine sp ?_
 refine newI (fun b5 hb5 hn5=>?_)
 refine sp ?_
 refine sXa 0 rfl Siz.eq rfl rfl ?_
 refine sp ?_
 have hL:∀ x y z:Obj,∀ p∈[(b5,x),(b3,y),(b2,z)],w.heap.size≤p.1:=fun x y z p hp=>by
  simp only[List.mem_cons,List.mem_nil_iff,or_false] at hp
  rcases hp with rfl|rfl|rfl
  ·exact hb5
  ·exact hb3
  ·exact hb2
 refine lOn Shp.eq mem1 rfl ?_
 refine sp ?_
 rw[Vc]
 refine sp ?_
 refine cdB (fun hnu=>?_) (fun hnu=>?_)
 ·refine sp ?_
  refine lAg Shp.eq mem2 rfl rfl ?_
  refine sp ?_
  refine callV en_58 (cIs (fun w' hw'=>nullable_walk (d+1) w' lo f a c (Nat.le_trans hlo hw'.size) hok (hA.sy hlo hw' (hL _ _ _))) ?_)
  refine sp ?_
  repeat' (first|((first|((first|refine gT rfl ?_ ?_|refine gF rfl ?_ ?_|refine cdD ?_ ?_)<;>intro h)|((first|refine gbT rfl ?_ ?_|refine gbF rfl ?_ ?_|refine cdB ?_ ?_)<;>intro h<;>(try subst h))|refine lOa Shp.eq rfl ?_|refine lAa Shp.eq rfl rfl ?_|refine newI (fun b hb hn=>?_)|refine sXb Siz.eq rfl rfl ?_)<;>simp (disch:=omega) only[push_cast,qE]))
  all_goals refine finIs (hL _ _ _) (congrArg Value.bool ?_)
  all_goals rw[fitD,if_pos hnu]
  all_goals by_cases hz:v.ls=[]<;>simp[*]
 refine sp ?_
 refine lOn Shp.eq mem0 rfl ?_
 refine sp ?_
 refine callV en_59 (cIs (fun w' hw'=>number_k_walk w' f.k) ?_)
 refine sp ?_
 rw[Vb]
 refine sp ?_
 rw[Vc]
 refine sp ?_
 refine cdB (fun hnum=>?_) (fun hnum=>?_)
 ·rw[Bool.and_eq_true,decide_eq_true_eq,decide_eq_true_eq] at hnum
  refine sp ?_
  refine lOn Shp.eq mem0 rfl ?_
  refine sp ?_
  refine lOn Shp.eq mem1 rfl ?_
  refine sp ?_
  refine callV en_94 (cIs (fun w' hw'=>rangedR_walk w' f.k v.num hnum) ?_)
  refine sp ?_
  repeat' (first|((first|((first|refine gT rfl ?_ ?_|refine gF rfl ?_ ?_|refine cdD ?_ ?_)<;>intro h)|((first|refine gbT rfl ?_ ?_|refine gbF rfl ?_ ?_|refine cdB ?_ ?_)<;>intro h<;>(try subst h))|refine lOa Shp.eq rfl ?_|refine lAa Shp.eq rfl rfl ?_|refine newI (fun b hb hn=>?_)|refine sXb Siz.eq rfl rfl ?_)<;>simp (disch:=omega) only[push_cast,qE]))
  all_goals refine finIs (hL _ _ _) (congrArg Value.bool ?_)
  all_goals rw[fit_n hnu hnum]
  all_goals by_cases hz:v.ls=[]<;>simp[*]
 have hnum':¬ (2≤f.k∧f.k≤11):=fun h=>by simp[h] at hnum
 refine forget (fun e=>e 2=.pointer (some ⟨b2,0,none⟩)∧e 3=.pointer (some ⟨b3,0,none⟩)∧e 5=.pointer (some ⟨b5,0,none⟩)) ⟨rfl,rfl,rfl⟩ ?_
 rintro e ⟨h2,h3,h5⟩
 simp (disch:=omega) only[push_cast,qE,h2,h3,h5]
 refine lOn Shp.eq mem0 rfl ?_
 simp (disch:=omega) only[push_cast,qE,h2,h3,h5]
 rw[Vc]
 simp (disch:=omega) only[push_cast,qE,h2,h3,h5]
 refine cdD (fun hk=>?_) (fun hk12=>?_)
 ·simp (disch:=omega) only[push_cast,qE,h2,h3,h5]
  refine lOn Shp.eq mem1 rfl ?_
  simp (disch:=omega) only[push_cast,qE,h2,h3,h5]
  have htx:v.tx.length≤4611686018427387904:=by rw[wV_eq] at hwt; omega
  refine callV en_110 (cIs (fun w' hw'=>letters_walk w' v.tx htx) ?_)
  simp (disch:=omega) only[push_cast,qE,h2,h3,h5]
  repeat' (first|((first|((first|refine gT rfl ?_ ?_|refine gF rfl ?_ ?_|refine cdD ?_ ?_)<;>intro h)|((first|refine gbT rfl ?_ ?_|refine gbF rfl ?_ ?_|refine cdB ?_ ?_)<;>intro h<;>(try subst h))|refine lOa Shp.eq rfl ?_|refine lAa Shp.eq rfl rfl ?_|refine newI (fun b hb hn=>?_)|refine sXb Siz.eq rfl rfl ?_)<;>simp (disch:=omega) only[push_cast,qE,h2,h3,h5]))
  all_goals refine finIs (hL _ _ _) (congrArg Value.bool ?_)
  all_goals rw[fit_t hnu (by omega)]
  all_goals rcases nil_or v.ls with ⟨hz,hz0⟩|⟨hz,hz0⟩
  all_goals first|(exfalso; omega)|(exfalso; rw[hz] at *; simp at *; done)|simp[*]
 simp (disch:=omega) only[push_cast,qE,h2,h3,h5]
 refine lOn Shp.eq mem0 rfl ?_
 simp (disch:=omega) only[push_cast,qE,h2,h3,h5]
 rw[Vc]
 simp (disch:=omega) only[push_cast,qE,h2,h3,h5]
 refine cdD (fun hk=>?_) (fun hk13=>?_)
 ·simp (disch:=omega) only[push_cast,qE,h2,h3,h5]
  repeat' (first|((first|((first|refine gT rfl ?_ ?_|refine gF rfl ?_ ?_|refine cdD ?_ ?_)<;>intro h)|((first|refine gbT rfl ?_ ?_|refine gbF rfl ?_ ?_|refine cdB ?_ ?_)<;>intro h<;>(try subst h))|refine lOa Shp.eq rfl ?_|refine lAa Shp.eq rfl rfl ?_|refine newI (fun b hb hn=>?_)|refine sXb Siz.eq rfl rfl ?_)<;>simp (disch:=omega) only[push_cast,qE,h2,h3,h5]))
  all_goals refine finIs (hL _ _ _) (congrArg Value.bool ?_)
  all_goals rw[fit_t hnu (by omega)]
  all_goals rcases nil_or v.ls with ⟨hz,hz0⟩|⟨hz,hz0⟩
  all_goals first|(exfalso; omega)|(exfalso; rw[hz] at *; simp at *; done)|simp[*]
 simp (disch:=omega) only[push_cast,qE,h2,h3,h5]
 refine lOn Shp.eq mem0 rfl ?_
 simp (disch:=omega) only[push_cast,qE,h2,h3,h5]
 rw[Vc]
 simp (disch:=omega) only[push_cast,qE,h2,h3,h5]
 refine cdD (fun hk=>?_) (fun hk14=>?_)
 ·simp (disch:=omega) only[push_cast,qE,h2,h3,h5]
  repeat' (first|((first|((first|refine gT rfl ?_ ?_|refine gF rfl ?_ ?_|refine cdD ?_ ?_)<;>intro h)|((first|refine gbT rfl ?_ ?_|refine gbF rfl ?_ ?_|refine cdB ?_ ?_)<;>intro h<;>(try subst h))|refine lOa Shp.eq rfl ?_|refine lAa Shp.eq rfl rfl ?_|refine newI (fun b hb hn=>?_)|refine sXb Siz.eq rfl rfl ?_)<;>simp (disch:=omega) only[push_cast,qE,h2,h3,h5]))
  all_goals refine finIs (hL _ _ _) (congrArg Value.bool ?_)
  all_goals rw[fit_t hnu (by omega)]
  all_goals rcases nil_or v.ls with ⟨hz,hz0⟩|⟨hz,hz0⟩
  all_goals first|(exfalso; omega)|(exfalso; rw[hz] at *; simp at *; done)|simp[*]
 have tail:f.k=19∨f.k=20→∃ g gb goff ga gc,f.sub[0]?=some g∧a=some ⟨gb,goff,none⟩∧gb < lo∧At w gb goff (g.cells ga gc)∧FlAt w lo g ga gc∧okD d g∧0 < f.sub.length:=fun hk=>by
  have hlen:f.sub.length=1:=by
   have h1:=hsh.2.2.2
   rcases hk with hk|hk<;>rw[hk] at h1<;>simp[leastK,mostK] at h1<;>omega
  obtain ⟨g,hg⟩:∃ g,f.sub[0]?=some g:=⟨_,qH (by omega)⟩
  obtain ⟨gb,goff,ga,gc,q1,g1,g2,g3⟩:=hA.get hg
  exact ⟨g,gb,goff,ga,gc,hg,q1,g1,un g2,g3,hsub g (List.mem_of_getElem? hg),by omega⟩
 simp (disch:=omega) only[push_cast,qE,h2,h3,h5]
 refine lOn Shp.eq mem0 rfl ?_
 simp (disch:=omega) only[push_cast,qE,h2,h3,h5]
 rw[Vc]
 simp (disch:=omega) only[push_cast,qE,h2,h3,h5]
 refine cdD (fun h19=>?_) (fun h19=>?_)
 ·simp (disch:=omega) only[push_cast,qE,h2,h3,h5]
  rw[Vc]
  simp (disch:=omega) only[push_cast,qE,h2,h3,h5]
  refine cdD (fun _=>?_) (fun h=>absurd h19 h)
  obtain ⟨g,gb,goff,ga,gc,hg,rfl,g1,g2,g3,gok,hpos⟩:=tail (.inl h19)
  simp (disch:=omega) only[push_cast,qE,h2,h3,h5]
  refine drawQT (by kernel_rfl) (by kernel_rfl) mixed (by kernel_rfl) ?_
  simp (disch:=omega) only[push_cast,qE,h2,h3,h5]
  refine lOn Shp.eq mem0 rfl ?_
  simp (disch:=omega) only[push_cast,qE,h2,h3,h5]
  refine ldAggF Shp.eq g2 rfl (out_of (fun p hp=>Nat.lt_of_lt_of_le (Nat.lt_of_lt_of_le g1 hlo) (hL _ _ _ p hp))) ?_
  simp (disch:=omega) only[push_cast,qE,h2,h3,h5,Fld.cells]
  refine lAg Shp.eq mem1 rfl rfl ?_
  simp (disch:=omega) only[push_cast,qE,h2,h3,h5]
  refine qcallV en_76 (qcallX_is (.bool (fitD d g v)) (fun w' hw'=>hF w' lo g v ga va gc vc (Nat.le_trans hlo hw'.size) gok (g3.sy hlo hw' (hL _ _ _)) (hV.sy hlo hw' (hL _ _ _)) hwt) ?_)
  simp (disch:=omega) only[push_cast,qE,h2,h3,h5]
  exact finIs (hL _ _ _) (congrArg Value.bool (fit_w hnu (by omega) hg).symm)
 simp (disch:=omega) only[push_cast,qE,h2,h3,h5]
 refine lOn Shp.eq mem0 rfl ?_
 simp (disch:=omega) only[push_cast,qE,h2,h3,h5]
 rw[Vc]
 simp (disch:=omega) only[push_cast,qE,h2,h3,h5]
 refine cdD (fun h20=>?_) (fun h20=>?_)
 ·obtain ⟨g,gb,goff,ga,gc,hg,rfl,g1,g2,g3,gok,hpos⟩:=tail (.inr h20)
  simp (disch:=omega) only[push_cast,qE,h2,h3,h5]
  refine drawQT (by kernel_rfl) (by kernel_rfl) mixed (by kernel_rfl) ?_
  simp (disch:=omega) only[push_cast,qE,h2,h3,h5]
  refine lOn Shp.eq mem0 rfl ?_
  simp (disch:=omega) only[push_cast,qE,h2,h3,h5]
  refine ldAggF Shp.eq g2 rfl (out_of (fun p hp=>Nat.lt_of_lt_of_le (Nat.lt_of_lt_of_le g1 hlo) (hL _ _ _ p hp))) ?_
  simp (disch:=omega) only[push_cast,qE,h2,h3,h5,Fld.cells]
  refine lAg Shp.eq mem1 rfl rfl ?_
  simp (disch:=omega) only[push_cast,qE,h2,h3,h5]
  refine qcallV en_76 (qcallX_is (.bool (fitD d g v)) (fun w' hw'=>hF w' lo g v ga va gc vc (Nat.le_trans hlo hw'.size) gok (g3.sy hlo hw' (hL _ _ _)) (hV.sy hlo hw' (hL _ _ _)) hwt) ?_)
  simp (disch:=omega) only[push_cast,qE,h2,h3,h5]
  exact finIs (hL _ _ _) (congrArg Value.bool (fit_w hnu (by omega) hg).symm)
 have hres:=fit_lists hsh hnu (d:=d) (by omega) (by omega)
 simp (disch:=omega) only[push_cast,qE,h2,h3,h5]
 refine lOn Shp.eq mem1 rfl ?_
 simp (disch:=omega) only[push_cast,qE,h2,h3,h5]
 refine gT rfl (fun ht=>?_) (fun ht=>?_)
 ·simp (disch:=omega) only[push_cast,qE,h2,h3,h5]
  refine lAg Shp.eq mem0 rfl rfl ?_
  simp (disch:=omega) only[push_cast,qE,h2,h3,h5]
  refine lAg Shp.eq mem1 rfl rfl ?_
  simp (disch:=omega) only[push_cast,qE,h2,h3,h5]
  refine callV en_111 (cIs (fun w' hw'=>hI w' lo f v a va c vc (Nat.le_trans hlo hw'.size) hok (hA.sy hlo hw' (hL _ _ _)) (hV.sy hlo hw' (hL _ _ _)) hwt) ?_)
  simp (disch:=omega) only[push_cast,qE,h2,h3,h5]
  exact finIs (hL _ _ _) (congrArg Value.bool (by rw[hres,decide_eq_true ht,Bool.true_and]))
 ·simp (disch:=omega) only[push_cast,qE,h2,h3,h5]
  exact finIs (hL _ _ _) (congrArg Value.bool (by rw[hres,decide_eq_false ht,Bool.false_and]))
structure LrI (w0:World) (b2 b3:Nat) (d:Nat) (f:Fld) (v:Vl) (a va:Option Addr) (c vc:Nat) (i:Nat) (wb:World) (e:Env) (ds:List Deferred) (L:Own):Prop where
 hw:wb=w0
 hds:ds=[]
 o:L=[(qb3 b3 v.nu v.num v.tx va v.ls.length vc),(qb1 b2 f a c)]
 hi:i≤v.ls.length
 hn:itemsN d f v.ls i=true
 h2:e 2=.pointer (some ⟨b2,0,none⟩)
 h3:e 3=.pointer (some ⟨b3,0,none⟩)
 h5:e 5=i64 v.ls.length
 h6:e 6=i64 i
structure LrA (w0:World) (b2 b3:Nat) (f:Fld) (v:Vl) (a va:Option Addr) (c vc:Nat) (wb:World) (e:Env) (ds:List Deferred) (L:Own):Prop where
 hw:wb=w0
 hds:ds=[]
 o:L=[(qb3 b3 v.nu v.num v.tx va v.ls.length vc),(qb1 b2 f a c)]
 hk:f.k=15∨f.k=16∨f.k=17
 h4:v.ls.length≤4096
 hn:v.num=0
 h16:f.k=16→(v.ls.length:Int)=f.wd
 h17:f.k=17→v.ls.length=f.sub.length
 h2:e 2=.pointer (some ⟨b2,0,none⟩)
 h3:e 3=.pointer (some ⟨b3,0,none⟩)
 h5:e 5=i64 v.ls.length
theorem listD_ff {d:Nat} {f:Fld} {v:Vl} (hk:f.k=15∨f.k=16∨f.k=17) (h:¬ (v.ls.length≤4096∧v.num=0∧(f.k=16→(v.ls.length:Int)=f.wd)∧(f.k=17→v.ls.length=f.sub.length))):listD d f v=false:=by
 unfold listD
 rw[if_neg (by omega),if_pos hk,itemsD_eq,Bool.eq_false_iff]
 intro hb
 simp only[Bool.and_eq_true,decide_eq_true_eq] at hb
 exact h ⟨hb.1,hb.2.1,hb.2.2.1,hb.2.2.2.1⟩
theorem listD_tt {d:Nat} {f:Fld} {v:Vl} (hk:f.k=15∨f.k=16∨f.k=17) (h1:v.ls.length≤4096) (h2:v.num=0) (h3:f.k=16→(v.ls.length:Int)=f.wd) (h4:f.k=17→v.ls.length=f.sub.length):listD d f v=itemsN d f v.ls v.ls.length:=by
 unfold listD
 rw[if_neg (by omega),if_pos hk,itemsD_eq,decide_eq_true h1,decide_eq_true h2,decide_eq_true h3,decide_eq_true h4]
 simp
theorem listD_18 {d:Nat} {f:Fld} {v:Vl} (hk:f.k=18):listD d f v=(decide (v.ls.length=1) && (decide (0≤v.num) && (decide (v.num < f.sub.length) && (match f.sub[v.num.toNat]?,v.ls[0]? with|some g,some x=>fitD d g x|_,_=>false)))):=by
 unfold listD; rw[if_pos hk]<;>rfl
theorem listR_step (d:Nat) (hF:FitsROK d):ListROK d:=by
 intro w lo f v a va c vc hlo hok hA hV hwt
 obtain ⟨hsh,hsub⟩:=(show shapedF f∧∀ g∈f.sub,okD d g from hok)
 have hwd:f.k=16→f.wd≤64:=fun hk=>by
  have h1:=hsh.2.1
  unfold wideP widthK at h1
  rw[hk] at h1; simp at h1; omega
 have hmost:(f.sub.length:Int)≤mostK f.k:=hsh.2.2.2.2
 have hmost17:f.k=17→f.sub.length≤32:=fun hk=>by rw[hk] at hmost; simp[mostK] at hmost; omega
 refine enterT (args:=[.agg (f.tcells a c).toArray,.agg (v.cells va vc).toArray]) Tryz.func111 rfl Tryz.ntmps111 (congrArg Array.toList Tryz.results111) (by kernel_rfl) (by simp) (Sy.refl w) ?_
 simp (disch:=omega) only[push_cast,qE,Fld.tcells,Vl.cells]
 refine newI (fun b2 hb2 hn2=>?_)
 simp (disch:=omega) only[push_cast,qE,Fld.tcells,Vl.cells]
 refine newI (fun b3 hb3 hn3=>?_)
 simp (disch:=omega) only[push_cast,qE,Fld.tcells,Vl.cells]
 have hL:∀ x y:Obj,∀ p∈[(b3,x),(b2,y)],w.heap.size≤p.1:=fun x y p hp=>by
  simp only[List.mem_cons,List.mem_nil_iff,or_false] at hp
  rcases hp with rfl|rfl
  ·exact hb3
  ·exact hb2
 refine lOn Shp.eq mem0 rfl ?_
 refine sp ?_
 refine lOn Shp.eq mem1 rfl ?_
 refine sp ?_
 refine cutV (LrA w b2 b3 f v a va c vc) ?_ ?_
 ·rw[Vb]
  refine sp ?_
  rw[Vc]
  refine sp ?_
  refine cdD (fun h15=>?_) (fun n15=>?_)
  ·refine sp ?_
   refine gF rfl (fun q1=>?_) (fun q1=>?_)
   rotate_left
   ·refine sp ?_
    rw[Vc]
    refine sp ?_
    exact finIs (hL _ _) (congrArg Value.bool (listD_ff (.inl h15) (by omega)).symm)
   refine sp ?_
   refine lOn Shp.eq mem0 rfl ?_
   refine sp ?_
   rw[Vc]
   refine sp ?_
   refine cdD (fun q2=>?_) (fun q2=>?_)
   ·refine sp ?_
    exact finIs (hL _ _) (congrArg Value.bool (listD_ff (.inl h15) (by omega)).symm)
   ·refine sp ?_
    exact ⟨rfl,rfl,rfl,.inl h15,by omega,by omega,by omega,by omega,rfl,rfl,rfl⟩
  refine sp ?_
  rw[Vc]
  refine sp ?_
  refine cdD (fun h16=>?_) (fun n16=>?_)
  ·have hwd':=hwd h16
   refine sp ?_
   refine lOn Shp.eq mem1 rfl ?_
   refine sp ?_
   refine gF rfl (fun q1=>?_) (fun q1=>?_)
   rotate_left
   ·refine sp ?_
    rw[Vc]
    refine sp ?_
    exact finIs (hL _ _) (congrArg Value.bool (listD_ff (.inr (.inl h16)) (by omega)).symm)
   refine sp ?_
   refine lOn Shp.eq mem0 rfl ?_
   refine sp ?_
   rw[Vc]
   refine sp ?_
   refine cdD (fun q2=>?_) (fun q2=>?_)
   ·refine sp ?_
    exact finIs (hL _ _) (congrArg Value.bool (listD_ff (.inr (.inl h16)) (by omega)).symm)
   ·refine sp ?_
    exact ⟨rfl,rfl,rfl,.inr (.inl h16),by omega,by omega,by omega,by omega,rfl,rfl,rfl⟩
  refine sp ?_
  rw[Vc]
  refine sp ?_
  refine cdD (fun h17=>?_) (fun n17=>?_)
  ·have hm17:=hmost17 h17
   refine sp ?_
   refine lOn Shp.eq mem1 rfl ?_
   refine sp ?_
   refine gF rfl (fun q1=>?_) (fun q1=>?_)
   rotate_left
   ·refine sp ?_
    rw[Vc]
    refine sp ?_
    exact finIs (hL _ _) (congrArg Value.bool (listD_ff (.inr (.inr h17)) (by omega)).symm)
   refine sp ?_
   refine lOn Shp.eq mem0 rfl ?_
   refine sp ?_
   rw[Vc]
   refine sp ?_
   refine cdD (fun q2=>?_) (fun q2=>?_)
   ·refine sp ?_
    exact finIs (hL _ _) (congrArg Value.bool (listD_ff (.inr (.inr h17)) (by omega)).symm)
   ·refine sp ?_
    exact ⟨rfl,rfl,rfl,.inr (.inr h17),by omega,by omega,by omega,by omega,rfl,rfl,rfl⟩
  refine sp ?_
  rw[Vc]
  refine sp ?_
  refine cdD (fun h18=>?_) (fun n18=>?_)
  rotate_left
  ·refine sp ?_
   exact finIs (hL _ _) (congrArg Value.bool (listD_no (by omega)).symm)
  refine sp ?_
  refine forgetS (fun e=>e 2=.pointer (some ⟨b2,0,none⟩)∧e 3=.pointer (some ⟨b3,0,none⟩)∧e 5=i64 v.ls.length) ⟨rfl,rfl,rfl⟩ ?_
  rintro e ⟨h2,h3,h5⟩
  refine drawQT (by kernel_rfl) (by kernel_rfl) mixed (by kernel_rfl) ?_
  simp (disch:=omega) only[push_cast,qE,h2,h3,h5]
  refine gT rfl (fun q1=>?_) (fun q1=>?_)
  rotate_left
  ·simp (disch:=omega) only[push_cast,qE,h2,h3,h5]
   exact finIs (hL _ _) (congrArg Value.bool (by rw[listD_18 h18,decide_eq_false (by omega)]; rfl))
  simp (disch:=omega) only[push_cast,qE,h2,h3,h5]
  refine lOn Shp.eq mem0 rfl ?_
  simp (disch:=omega) only[push_cast,qE,h2,h3,h5]
  refine gT rfl (fun q2=>?_) (fun q2=>?_)
  rotate_left
  ·simp (disch:=omega) only[push_cast,qE,h2,h3,h5]
   exact finIs (hL _ _) (congrArg Value.bool (by rw[listD_18 h18,decide_eq_false q2]; simp))
  simp (disch:=omega) only[push_cast,qE,h2,h3,h5]
  refine lOn Shp.eq mem0 rfl ?_
  simp (disch:=omega) only[push_cast,qE,h2,h3,h5]
  refine lOn Shp.eq mem1 rfl ?_
  simp (disch:=omega) only[push_cast,qE,h2,h3,h5]
  refine gT rfl (fun q3=>?_) (fun q3=>?_)
  rotate_left
  ·simp (disch:=omega) only[push_cast,qE,h2,h3,h5]
   exact finIs (hL _ _) (congrArg Value.bool (by rw[listD_18 h18,decide_eq_false q3]; simp))
  obtain ⟨g,hg⟩:∃ g,f.sub[v.num.toNat]?=some g:=⟨_,qH (by omega)⟩
  obtain ⟨x,hx⟩:∃ x,v.ls[0]?=some x:=⟨_,qH (by omega)⟩
  obtain ⟨gb,goff,ga,gc,rfl,g1,g2,g3⟩:=hA.get hg
  obtain ⟨xb,xoff,xa,xc,rfl,x1,x2,x3⟩:=hV.get hx
  have hwx:=wV_get hx
  rw[Nat.zero_mul,Nat.add_zero] at x2
  simp (disch:=omega) only[push_cast,qE,h2,h3,h5]
  refine lOn Shp.eq mem1 rfl ?_
  simp (disch:=omega) only[push_cast,qE,h2,h3,h5]
  refine lOn Shp.eq mem0 rfl ?_
  simp (disch:=omega) only[push_cast,qE,h2,h3,h5]
  refine ldAggF Shp.eq g2 rfl (out_of (fun p hp=>Nat.lt_of_lt_of_le (Nat.lt_of_lt_of_le g1 hlo) (hL _ _ p hp))) ?_
  simp (disch:=omega) only[push_cast,qE,h2,h3,h5,Fld.cells]
  refine lOn Shp.eq mem0 rfl ?_
  simp (disch:=omega) only[push_cast,qE,h2,h3,h5]
  refine ldAggF Shp.eq x2 rfl (out_of (fun p hp=>Nat.lt_of_lt_of_le (Nat.lt_of_lt_of_le x1 hlo) (hL _ _ p hp))) ?_
  simp (disch:=omega) only[push_cast,qE,h2,h3,h5,Vl.cells]
  refine qcallV en_76 (qcallX_is (.bool (fitD d g x)) (fun w' hw'=>hF w' lo g x ga xa gc xc (Nat.le_trans hlo hw'.size) (hsub g (List.mem_of_getElem? hg)) (g3.sy hlo hw' (hL _ _)) (x3.sy hlo hw' (hL _ _)) (by omega)) ?_)
  simp (disch:=omega) only[push_cast,qE,h2,h3,h5]
  exact finIs (hL _ _) (congrArg Value.bool (by rw[listD_18 h18,decide_eq_true (by omega:v.ls.length=1),decide_eq_true q2,decide_eq_true q3,hg,hx]; rfl))
 ·rintro wb e ds L ⟨rfl,rfl,rfl,hk,h4,hnum,h16,h17,h2,h3,h5⟩
  simp (disch:=omega) only[push_cast,qE,h2,h3,h5]
  rw[Vb]
  simp (disch:=omega) only[push_cast,qE,h2,h3,h5]
  refine loopW (G:=Nat) (LrI wb b2 b3 d f v a va c vc) (fun i=>v.ls.length - i) 0 _ (fun w hw=>hw) (by kernel_rfl) ⟨rfl,rfl,rfl,by omega,rfl,h2,h3,h5,rfl⟩ ?_
  clear h2 h3 h5 e
  rintro i wb e ds L ⟨rfl,rfl,rfl,hi,hn,h2,h3,h5,h6⟩
  simp (disch:=omega) only[push_cast,qE,h2,h3,h5,h6]
  rw[Vc]
  simp (disch:=omega) only[push_cast,qE,h2,h3,h5,h6]
  refine cdD (fun hlt=>?_) (fun hge=>?_)
  rotate_left
  ·obtain rfl:i=v.ls.length:=by omega
   simp (disch:=omega) only[push_cast,qE,h2,h3,h5,h6]
   exact finIs (hL _ _) (congrArg Value.bool (by rw[listD_tt hk h4 hnum h16 h17,hn]))
  have hli:i < v.ls.length:=by omega
  obtain ⟨x,hx⟩:∃ x,v.ls[i]?=some x:=⟨_,qH hli⟩
  obtain ⟨g,hg⟩:∃ g,f.sub[childN f i]?=some g:=by
   refine ⟨_,qH ?_⟩
   unfold childN
   by_cases hk17:f.k=17
   ·rw[if_pos hk17,← h17 hk17]; exact hli
   ·rw[if_neg hk17]
    have h1:=hsh.2.2.2
    rcases hk with hk|hk|hk
    ·rw[hk] at h1; simp[leastK,mostK] at h1; omega
    ·rw[hk] at h1; simp[leastK,mostK] at h1; omega
    ·exact absurd hk hk17
  have hg':=hg
  have hpos:childN f i < f.sub.length:=(List.getElem?_eq_some_iff.1 hg).1
  obtain ⟨gb,goff,ga,gc,rfl,g1,g2,g3⟩:=hA.get hg
  obtain ⟨xb,xoff,xa,xc,rfl,x1,x2,x3⟩:=hV.get hx
  have hwx:=wV_get hx
  simp (disch:=omega) only[push_cast,qE,h2,h3,h5,h6]
  rw[Vb]
  simp (disch:=omega) only[push_cast,qE,h2,h3,h5,h6]
  refine lOn Shp.eq mem1 rfl ?_
  simp (disch:=omega) only[push_cast,qE,h2,h3,h5,h6]
  rw[Vc]
  simp (disch:=omega) only[push_cast,qE,h2,h3,h5,h6]
  refine cdD (fun hk17=>?_) (fun hk17=>?_)
  focus
   have hch:childN f i=i:=if_pos (by omega)
   rw[hch] at g2 hpos hg'
  rotate_left
  focus
   have hch:childN f i=0:=if_neg (by omega)
   rw[hch] at g2 hpos hg'
   rw[Nat.zero_mul,Nat.add_zero] at g2
  all_goals
   simp (disch:=omega) only[push_cast,qE,h2,h3,h5,h6]
   refine drawQT (by kernel_rfl) (by kernel_rfl) mixed (by kernel_rfl) ?_
   simp (disch:=omega) only[push_cast,qE,h2,h3,h5,h6]
   refine lOn Shp.eq mem1 rfl ?_
   simp (disch:=omega) only[push_cast,qE,h2,h3,h5,h6]
   refine ldAggF Shp.eq g2 rfl (out_of (fun p hp=>Nat.lt_of_lt_of_le (Nat.lt_of_lt_of_le g1 hlo) (hL _ _ p hp))) ?_
   simp (disch:=omega) only[push_cast,qE,h2,h3,h5,h6,Fld.cells]
   refine lOn Shp.eq mem0 rfl ?_
   simp (disch:=omega) only[push_cast,qE,h2,h3,h5,h6]
   refine ldAggF Shp.eq x2 rfl (out_of (fun p hp=>Nat.lt_of_lt_of_le (Nat.lt_of_lt_of_le x1 hlo) (hL _ _ p hp))) ?_
   simp (disch:=omega) only[push_cast,qE,h2,h3,h5,h6,Vl.cells]
   refine qcallV en_76 (qcallX_is (.bool (fitD d g x)) (fun w' hw'=>hF w' lo g x ga xa gc xc (Nat.le_trans hlo hw'.size) (hsub g (List.mem_of_getElem? hg)) (g3.sy hlo hw' (hL _ _)) (x3.sy hlo hw' (hL _ _)) (by omega)) ?_)
   simp (disch:=omega) only[push_cast,qE,h2,h3,h5,h6]
   rw[Vc]
   simp (disch:=omega) only[push_cast,qE,h2,h3,h5,h6]
   refine cdB (fun hb=>?_) (fun hb=>?_)
   ·simp (disch:=omega) only[push_cast,qE,h2,h3,h5,h6]
    rw[Bool.not_eq_true'] at hb
    have h2':=itemsN_no (n:=v.ls.length) (by omega) (show itemsN d f v.ls (i+1)=false by rw[itemsN_succ (by rw[hch]; exact hg') hx,hb,Bool.and_false])
    exact finIs (hL _ _) (congrArg Value.bool (by rw[listD_tt hk h4 hnum h16 h17,h2']))
   ·rw[Bool.not_eq_false'] at hb
    simp (disch:=omega) only[push_cast,qE,h2,h3,h5,h6]
    exact ⟨i+1,_,fun w hw=>hw,⟨rfl,rfl,rfl,by omega,by rw[itemsN_succ (by rw[hch]; exact hg') hx,hn,hb]; rfl,h2,h3,h5,uu⟩,by omega⟩
theorem fitsR_all:∀ d,FitsROK d
 | 0=>fun w lo f v a va c vc hlo hok=>absurd hok (by simp[okD])
 | d+1=>fitsR_step d (fitsR_all d) (listR_step d (fitsR_all d))
end Go.Proofs.YtilejcofleeeiaaGreatDoor
