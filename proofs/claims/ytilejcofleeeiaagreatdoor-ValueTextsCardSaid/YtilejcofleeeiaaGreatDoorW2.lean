/- YtilejcofleeeiaaGreatDoor: walks, part 2: a type that fits, Nullable. -/
import Derived.Test.YtilejcofleeeiaaGreatDoorW1
namespace Go.Proofs.YtilejcofleeeiaaGreatDoor
open Go Go.K
open Nat renaming reduceEqDiff → qE
open Go.Value renaming oneCell' → qC
set_option maxRecDepth 100000
set_option linter.unusedVariables false
set_option linter.unusedSimpArgs false
set_option maxHeartbeats 4000000
def saysWord (i:Nat):List UInt8:=[[],[110,117,108,108],[98,111,111,108],[105,110,116,56],[105,110,116,49,54],[105,110,116,51,50],[105,110,116,54,52],[117,105,110,116,56],[117,105,110,116,49,54],[117,105,110,116,51,50],[117,105,110,116,54,52],[102,108,111,97,116,54,52],[116,101,120,116],[98,121,116,101,115],[102,105,120,101,100],[108,105,115,116],[115,112,97,110],[115,116,114,117,99,116],[99,104,111,105,99,101],[100,105,99,116],[114,117,110,115]].getD i []
def saysWidth (i:Nat):Int:=[0,0,0,1,2,4,8,1,2,4,8,8,0,0,0,0,0,0,0,0,0].getD i 0
def saysBufs (i:Nat):Int:=[0,0,2,2,2,2,2,2,2,2,2,2,3,3,2,2,1,1,2,2,0].getD i 0
def saysIdx (i:Nat):Bool:=[false,false,false,true,true,true,true,true,true,true,true].getD i false
def SaysAt (w:World):Prop:=3 < w.heap.size∧∀ i,i < 21→At w 3 (i * 4) [str (saysWord i),i64 (saysWidth i),i64 (saysBufs i),.bool (saysIdx i)]
theorem SaysAt.mono {w w':World} {L:Own} (h:SaysAt w) (hs:Sy w L w') (hn:∀ p∈L,w.heap.size≤p.1):SaysAt w' :=
 ⟨Nat.lt_of_lt_of_le h.1 hs.size,fun i hi=>(h.2 i hi).of_block (hs.rest _ h.1 fun hm=>by
  obtain ⟨p,hp,e⟩:=List.mem_map.1 hm
  have:=hn p hp
  have:=h.1
  omega)⟩
theorem saysIdx_iff (i:Nat) (h:i < 21):saysIdx i=true↔3≤i∧i≤10:=by
 revert h; revert i
 decide
def leastK (k:Int):Int:=if k=15∨k=16∨k=18∨k=19∨k=20 then 1 else 0
def mostK (k:Int):Int:=if k=15∨k=16∨k=19∨k=20 then 1 else if k=17∨k=18 then 32 else 0
def widthK (k:Int):Int:=if k=14 then 16 else if k=16 then 64 else 0
abbrev wideP (k wd:Int):Prop:=if 0 < widthK k then 1≤wd∧wd≤widthK k else wd=0
abbrev toldP (k id ix:Int):Prop:=if k=19 then 0≤id∧id < 32∧3≤ix∧ix≤10 else id=0∧ix=0
abbrev shapedP (k wd id ix:Int) (n:Nat):Prop:=(1≤k∧k≤20)∧wideP k wd∧toldP k id ix∧leastK k≤n∧(n:Int)≤mostK k
structure FitsI (w0:World) (b:Nat) (k wd id ix:Int) (a:Option Addr) (n c:Nat) (wb:World) (e:Env) (ds:List Deferred) (L:Own):Prop where
 hw:wb=w0
 d:ds=[]
 o:L=[(b,.cells #[i64 k,i64 wd,i64 id,i64 ix,.slice a n c] 24 (0,0))]
 h1:e 1=.pointer (some ⟨b,0,none⟩)
 h3:e 3=i64 (leastK k)
 h4:e 4=i64 (mostK k)
structure FitsI1 (w0:World) (b:Nat) (k wd id ix:Int) (a:Option Addr) (n c:Nat) (wb:World) (e:Env) (ds:List Deferred) (L:Own):Prop extends FitsI w0 b k wd id ix a n c wb e ds L where
 h5:e 5=i64 (widthK k)
 h6:e 6=.bool (decide (k=19))
structure FitsI2 (w0:World) (b:Nat) (k wd id ix:Int) (a:Option Addr) (n c:Nat) (wb:World) (e:Env) (ds:List Deferred) (L:Own):Prop extends FitsI w0 b k wd id ix a n c wb e ds L where
 h6:e 6=.bool (decide (k=19))
 h7:e 7=.bool (decide (wideP k wd))
structure FitsI2b (w0:World) (b:Nat) (k wd id ix:Int) (a:Option Addr) (n c:Nat) (wb:World) (e:Env) (ds:List Deferred) (L:Own):Prop extends FitsI2 w0 b k wd id ix a n c wb e ds L where
 h8:e 8=.bool (decide (id=0∧ix=0))
structure FitsI3 (w0:World) (b:Nat) (k wd id ix:Int) (a:Option Addr) (n c:Nat) (wb:World) (e:Env) (ds:List Deferred) (L:Own):Prop extends FitsI w0 b k wd id ix a n c wb e ds L where
 h7:e 7=.bool (decide (wideP k wd))
 h8:e 8=.bool (decide (toldP k id ix))
theorem bool_iff' {b:Bool} {P:Prop} [Decidable P] (h:b=true↔P):(Value.bool b)=.bool (decide P):=bool_iff (by rw[h,decide_eq_true_iff])
theorem i64_eq {a b:Int} (h:a=b):i64 a=i64 b:=by rw[h]
theorem fits_walk (w:World) (hs:SaysAt w) (k wd id ix:Int) (a:Option Addr) (n c:Nat):Calls Tryz.prog 141 #[.agg #[i64 k,i64 wd,i64 id,i64 ix,.slice a n c]] w (Rets w (Is (.bool (decide (shapedP k wd id ix n))))):=by
 refine enterT (args:=[.agg #[i64 k,i64 wd,i64 id,i64 ix,.slice a n c]]) Tryz.func141 rfl Tryz.ntmps141 (congrArg Array.toList Tryz.results141) (by kernel_rfl) (by simp) (Sy.refl w) ?_
 refine sp ?_
 repeat' (first|((first|refine gT rfl (fun h=>?_) (fun h=>?_)|refine gF rfl (fun h=>?_) (fun h=>?_)|refine cdD (fun h=>?_) (fun h=>?_)|(refine gbT rfl (fun h=>?_) (fun h=>?_)<;>(try subst h))|(refine gbF rfl (fun h=>?_) (fun h=>?_)<;>(try subst h))|(refine cdB (fun h=>?_) (fun h=>?_)<;>(try subst h))|refine lOn Shp.eq (by (first|exact mem0|exact mem1|exact mem2|exact mem3|exact mem4|exact mem5)) rfl ?_|refine lAg Shp.eq (by (first|exact mem0|exact mem1|exact mem2|exact mem3|exact mem4|exact mem5)) rfl rfl ?_|refine newI (fun b hb hn=>?_)|refine stX 0 rfl Siz.eq rfl rfl (by simp[qC]) (by simp) ?_|refine stX 1 rfl Siz.eq rfl rfl (by simp[qC]) (by simp) ?_|refine stX 2 rfl Siz.eq rfl rfl (by simp[qC]) (by simp) ?_|refine stX 3 rfl Siz.eq rfl rfl (by simp[qC]) (by simp) ?_|refine stX 4 rfl Siz.eq rfl rfl (by simp[qC]) (by simp) ?_|refine stX 5 rfl Siz.eq rfl rfl (by simp[qC]) (by simp) ?_|refine stX 6 rfl Siz.eq rfl rfl (by simp[qC]) (by simp) ?_)<;>simp (disch:=omega) only[push_cast,qE]))
 refine callV en_162 (cIs (fun w _=>known_walk w _) ?_)
 refine sp ?_
 rw[Vc]
 refine sp ?_
 refine cdD (fun hk=>?_) (fun hk=>?_)
 ·refine sp ?_
  refine fun w' hw=>⟨_,rfl,hw.drop (List.nil_sublist _) (fun p hp=>.inr (by simp at hp; rw[hp]; assumption)),?_⟩
  exact is_f (fun h=>hk h.1)
 refine sp ?_
 repeat' (first|((first|refine gT rfl (fun h=>?_) (fun h=>?_)|refine gF rfl (fun h=>?_) (fun h=>?_)|refine cdD (fun h=>?_) (fun h=>?_)|(refine gbT rfl (fun h=>?_) (fun h=>?_)<;>(try subst h))|(refine gbF rfl (fun h=>?_) (fun h=>?_)<;>(try subst h))|(refine cdB (fun h=>?_) (fun h=>?_)<;>(try subst h))|refine lOn Shp.eq (by (first|exact mem0|exact mem1|exact mem2|exact mem3|exact mem4|exact mem5)) rfl ?_|refine lAg Shp.eq (by (first|exact mem0|exact mem1|exact mem2|exact mem3|exact mem4|exact mem5)) rfl rfl ?_|refine newI (fun b hb hn=>?_)|refine stX 0 rfl Siz.eq rfl rfl (by simp[qC]) (by simp) ?_|refine stX 1 rfl Siz.eq rfl rfl (by simp[qC]) (by simp) ?_|refine stX 2 rfl Siz.eq rfl rfl (by simp[qC]) (by simp) ?_|refine stX 3 rfl Siz.eq rfl rfl (by simp[qC]) (by simp) ?_|refine stX 4 rfl Siz.eq rfl rfl (by simp[qC]) (by simp) ?_|refine stX 5 rfl Siz.eq rfl rfl (by simp[qC]) (by simp) ?_|refine stX 6 rfl Siz.eq rfl rfl (by simp[qC]) (by simp) ?_)<;>simp (disch:=omega) only[push_cast,qE]))
 refine cutV (FitsI1 w b k wd id ix a n c) ?_ ?_
 ·rw[Vb]
  refine sp ?_
  repeat' (first|((first|refine gT rfl (fun h=>?_) (fun h=>?_)|refine gF rfl (fun h=>?_) (fun h=>?_)|refine cdD (fun h=>?_) (fun h=>?_)|(refine gbT rfl (fun h=>?_) (fun h=>?_)<;>(try subst h))|(refine gbF rfl (fun h=>?_) (fun h=>?_)<;>(try subst h))|(refine cdB (fun h=>?_) (fun h=>?_)<;>(try subst h))|refine lOn Shp.eq (by (first|exact mem0|exact mem1|exact mem2|exact mem3|exact mem4|exact mem5)) rfl ?_|refine lAg Shp.eq (by (first|exact mem0|exact mem1|exact mem2|exact mem3|exact mem4|exact mem5)) rfl rfl ?_|refine newI (fun b hb hn=>?_)|refine stX 0 rfl Siz.eq rfl rfl (by simp[qC]) (by simp) ?_|refine stX 1 rfl Siz.eq rfl rfl (by simp[qC]) (by simp) ?_|refine stX 2 rfl Siz.eq rfl rfl (by simp[qC]) (by simp) ?_|refine stX 3 rfl Siz.eq rfl rfl (by simp[qC]) (by simp) ?_|refine stX 4 rfl Siz.eq rfl rfl (by simp[qC]) (by simp) ?_|refine stX 5 rfl Siz.eq rfl rfl (by simp[qC]) (by simp) ?_|refine stX 6 rfl Siz.eq rfl rfl (by simp[qC]) (by simp) ?_)<;>simp (disch:=omega) only[push_cast,qE])|(first|rw[Vc]|rw[Vb])<;>(try simp (disch:=omega) only[push_cast,qE]))
  all_goals (refine ⟨⟨rfl,rfl,rfl,rfl,i64_eq ?_,i64_eq ?_⟩,i64_eq ?_,?_⟩)
  all_goals first
   | (unfold leastK; repeat' split; all_goals omega)
   | (unfold mostK; repeat' split; all_goals omega)
   | (unfold widthK; repeat' split; all_goals omega)
   | exact is_t (by omega)
   | exact is_f (by omega)
 rintro wb e ds L ⟨⟨rfl,rfl,rfl,h1,h3,h4⟩,h5,h6⟩
 simp (disch:=omega) only[push_cast,qE,h1,h3,h4,h5,h6]
 repeat' (first|((first|refine gT rfl (fun h=>?_) (fun h=>?_)|refine gF rfl (fun h=>?_) (fun h=>?_)|refine cdD (fun h=>?_) (fun h=>?_)|(refine gbT rfl (fun h=>?_) (fun h=>?_)<;>(try subst h))|(refine gbF rfl (fun h=>?_) (fun h=>?_)<;>(try subst h))|(refine cdB (fun h=>?_) (fun h=>?_)<;>(try subst h))|refine lOn Shp.eq (by (first|exact mem0|exact mem1|exact mem2|exact mem3|exact mem4|exact mem5)) rfl ?_|refine lAg Shp.eq (by (first|exact mem0|exact mem1|exact mem2|exact mem3|exact mem4|exact mem5)) rfl rfl ?_|refine newI (fun b hb hn=>?_)|refine stX 0 rfl Siz.eq rfl rfl (by simp[qC]) (by simp) ?_|refine stX 1 rfl Siz.eq rfl rfl (by simp[qC]) (by simp) ?_|refine stX 2 rfl Siz.eq rfl rfl (by simp[qC]) (by simp) ?_|refine stX 3 rfl Siz.eq rfl rfl (by simp[qC]) (by simp) ?_|refine stX 4 rfl Siz.eq rfl rfl (by simp[qC]) (by simp) ?_|refine stX 5 rfl Siz.eq rfl rfl (by simp[qC]) (by simp) ?_|refine stX 6 rfl Siz.eq rfl rfl (by simp[qC]) (by simp) ?_)<;>simp (disch:=omega) only[push_cast,qE,h1,h3,h4,h5,h6]))
 refine cutV (FitsI2 wb b k wd id ix a n c) ?_ ?_
 ·rw[Vc]
  refine sp ?_
  repeat' (first|((first|refine gT rfl (fun h=>?_) (fun h=>?_)|refine gF rfl (fun h=>?_) (fun h=>?_)|refine cdD (fun h=>?_) (fun h=>?_)|(refine gbT rfl (fun h=>?_) (fun h=>?_)<;>(try subst h))|(refine gbF rfl (fun h=>?_) (fun h=>?_)<;>(try subst h))|(refine cdB (fun h=>?_) (fun h=>?_)<;>(try subst h))|refine lOn Shp.eq (by (first|exact mem0|exact mem1|exact mem2|exact mem3|exact mem4|exact mem5)) rfl ?_|refine lAg Shp.eq (by (first|exact mem0|exact mem1|exact mem2|exact mem3|exact mem4|exact mem5)) rfl rfl ?_|refine newI (fun b hb hn=>?_)|refine stX 0 rfl Siz.eq rfl rfl (by simp[qC]) (by simp) ?_|refine stX 1 rfl Siz.eq rfl rfl (by simp[qC]) (by simp) ?_|refine stX 2 rfl Siz.eq rfl rfl (by simp[qC]) (by simp) ?_|refine stX 3 rfl Siz.eq rfl rfl (by simp[qC]) (by simp) ?_|refine stX 4 rfl Siz.eq rfl rfl (by simp[qC]) (by simp) ?_|refine stX 5 rfl Siz.eq rfl rfl (by simp[qC]) (by simp) ?_|refine stX 6 rfl Siz.eq rfl rfl (by simp[qC]) (by simp) ?_)<;>simp (disch:=omega) only[push_cast,qE,h1,h3,h4,h5,h6])|(first|rw[Vc]|rw[Vb])<;>(try simp (disch:=omega) only[push_cast,qE,h1,h3,h4,h5,h6]))
  all_goals (refine ⟨⟨rfl,rfl,rfl,h1,h3,h4⟩,h6,?_⟩)
  all_goals first
   | exact is_t (by simp only[wideP]; split<;>omega)
   | exact is_f (by simp only[wideP]; split<;>omega)
   | exact is_d (by simp only[wideP]; split<;>omega)
 clear h1 h3 h4 h5 h6
 rintro wb e ds L ⟨⟨rfl,rfl,rfl,h1,h3,h4⟩,h6,h7⟩
 rw[V_seq]
 refine cutV (FitsI2b wb b k wd id ix a n c) ?_ ?_
 ·simp (disch:=omega) only[push_cast,qE,h1,h3,h4,h6,h7]
  repeat' (first|((first|refine gT rfl (fun h=>?_) (fun h=>?_)|refine gF rfl (fun h=>?_) (fun h=>?_)|refine cdD (fun h=>?_) (fun h=>?_)|(refine gbT rfl (fun h=>?_) (fun h=>?_)<;>(try subst h))|(refine gbF rfl (fun h=>?_) (fun h=>?_)<;>(try subst h))|(refine cdB (fun h=>?_) (fun h=>?_)<;>(try subst h))|refine lOn Shp.eq (by (first|exact mem0|exact mem1|exact mem2|exact mem3|exact mem4|exact mem5)) rfl ?_|refine lAg Shp.eq (by (first|exact mem0|exact mem1|exact mem2|exact mem3|exact mem4|exact mem5)) rfl rfl ?_|refine newI (fun b hb hn=>?_)|refine stX 0 rfl Siz.eq rfl rfl (by simp[qC]) (by simp) ?_|refine stX 1 rfl Siz.eq rfl rfl (by simp[qC]) (by simp) ?_|refine stX 2 rfl Siz.eq rfl rfl (by simp[qC]) (by simp) ?_|refine stX 3 rfl Siz.eq rfl rfl (by simp[qC]) (by simp) ?_|refine stX 4 rfl Siz.eq rfl rfl (by simp[qC]) (by simp) ?_|refine stX 5 rfl Siz.eq rfl rfl (by simp[qC]) (by simp) ?_|refine stX 6 rfl Siz.eq rfl rfl (by simp[qC]) (by simp) ?_)<;>simp (disch:=omega) only[push_cast,qE,h1,h3,h4,h6,h7])|(first|rw[Vc]|rw[Vb])<;>(try simp (disch:=omega) only[push_cast,qE,h1,h3,h4,h6,h7]))
  all_goals (refine ⟨⟨⟨rfl,rfl,rfl,h1,h3,h4⟩,h6,h7⟩,?_⟩)
  all_goals first
   | exact is_f (by omega)
   | exact is_d (by omega)
 clear h1 h3 h4 h6 h7
 rintro wb e ds L ⟨⟨⟨rfl,rfl,rfl,h1,h3,h4⟩,h6,h7⟩,h8⟩
 simp (disch:=omega) only[push_cast,qE,h1,h3,h4,h6,h7,h8]
 refine cutV (FitsI3 wb b k wd id ix a n c) ?_ ?_
 ·rw[Vc]
  simp (disch:=omega) only[push_cast,qE,h1,h3,h4,h6,h7,h8]
  refine cdD (fun hd=>?_) (fun hd=>?_)
  ·simp (disch:=omega) only[push_cast,qE,h1,h3,h4,h6,h7,h8]
   repeat' (first|((first|refine gT rfl (fun h=>?_) (fun h=>?_)|refine gF rfl (fun h=>?_) (fun h=>?_)|refine cdD (fun h=>?_) (fun h=>?_)|(refine gbT rfl (fun h=>?_) (fun h=>?_)<;>(try subst h))|(refine gbF rfl (fun h=>?_) (fun h=>?_)<;>(try subst h))|(refine cdB (fun h=>?_) (fun h=>?_)<;>(try subst h))|refine lOn Shp.eq (by (first|exact mem0|exact mem1|exact mem2|exact mem3|exact mem4|exact mem5)) rfl ?_|refine lAg Shp.eq (by (first|exact mem0|exact mem1|exact mem2|exact mem3|exact mem4|exact mem5)) rfl rfl ?_|refine newI (fun b hb hn=>?_)|refine stX 0 rfl Siz.eq rfl rfl (by simp[qC]) (by simp) ?_|refine stX 1 rfl Siz.eq rfl rfl (by simp[qC]) (by simp) ?_|refine stX 2 rfl Siz.eq rfl rfl (by simp[qC]) (by simp) ?_|refine stX 3 rfl Siz.eq rfl rfl (by simp[qC]) (by simp) ?_|refine stX 4 rfl Siz.eq rfl rfl (by simp[qC]) (by simp) ?_|refine stX 5 rfl Siz.eq rfl rfl (by simp[qC]) (by simp) ?_|refine stX 6 rfl Siz.eq rfl rfl (by simp[qC]) (by simp) ?_)<;>simp (disch:=omega) only[push_cast,qE,h1,h3,h4,h6,h7,h8])|(first|rw[Vc]|rw[Vb])<;>(try simp (disch:=omega) only[push_cast,qE,h1,h3,h4,h6,h7,h8]))
   ·refine callV en_162 (cIs (fun w _=>known_walk w _) ?_)
    simp (disch:=omega) only[push_cast,qE,h1,h3,h4,h6,h7,h8]
    repeat' (first|((first|refine gT rfl (fun h=>?_) (fun h=>?_)|refine gF rfl (fun h=>?_) (fun h=>?_)|refine cdD (fun h=>?_) (fun h=>?_)|(refine gbT rfl (fun h=>?_) (fun h=>?_)<;>(try subst h))|(refine gbF rfl (fun h=>?_) (fun h=>?_)<;>(try subst h))|(refine cdB (fun h=>?_) (fun h=>?_)<;>(try subst h))|refine lOn Shp.eq (by (first|exact mem0|exact mem1|exact mem2|exact mem3|exact mem4|exact mem5)) rfl ?_|refine lAg Shp.eq (by (first|exact mem0|exact mem1|exact mem2|exact mem3|exact mem4|exact mem5)) rfl rfl ?_|refine newI (fun b hb hn=>?_)|refine stX 0 rfl Siz.eq rfl rfl (by simp[qC]) (by simp) ?_|refine stX 1 rfl Siz.eq rfl rfl (by simp[qC]) (by simp) ?_|refine stX 2 rfl Siz.eq rfl rfl (by simp[qC]) (by simp) ?_|refine stX 3 rfl Siz.eq rfl rfl (by simp[qC]) (by simp) ?_|refine stX 4 rfl Siz.eq rfl rfl (by simp[qC]) (by simp) ?_|refine stX 5 rfl Siz.eq rfl rfl (by simp[qC]) (by simp) ?_|refine stX 6 rfl Siz.eq rfl rfl (by simp[qC]) (by simp) ?_)<;>simp (disch:=omega) only[push_cast,qE,h1,h3,h4,h6,h7,h8])|(first|rw[Vc]|rw[Vb])<;>(try simp (disch:=omega) only[push_cast,qE,h1,h3,h4,h6,h7,h8]))
    ·rename_i hx
     refine ldF (by exact sh_4) ((hs.2 ix.toNat (by omega)).sub 3 [.bool (saysIdx ix.toNat)] rfl) (out_of (by simp only[List.mem_singleton]; rintro p rfl; have:=hs.1; simp only; omega)) ?_
     simp (disch:=omega) only[push_cast,qE,h1,h3,h4,h6,h7,h8]
     refine ⟨⟨rfl,rfl,rfl,h1,h3,h4⟩,h7,bool_iff' ?_⟩
     rw[saysIdx_iff _ (by omega)]
     simp only[toldP,if_pos hd]
     omega
    ·refine ⟨⟨rfl,rfl,rfl,h1,h3,h4⟩,h7,is_f ?_⟩
     simp only[toldP,if_pos hd]
     omega
   all_goals (refine ⟨⟨rfl,rfl,rfl,h1,h3,h4⟩,h7,is_f ?_⟩; simp only[toldP,if_pos hd]; omega)
  ·simp (disch:=omega) only[push_cast,qE,h1,h3,h4,h6,h7,h8]
   refine ⟨⟨rfl,rfl,rfl,h1,h3,h4⟩,h7,?_⟩
   refine h8.trans (is_d ?_)
   simp only[toldP,if_neg hd]
 clear h1 h3 h4 h6 h7 h8
 rintro wb e ds L ⟨⟨rfl,rfl,rfl,h1,h3,h4⟩,h7,h8⟩
 simp (disch:=omega) only[push_cast,qE,h1,h3,h4,h7,h8]
 repeat' (first|((first|refine gT rfl (fun h=>?_) (fun h=>?_)|refine gF rfl (fun h=>?_) (fun h=>?_)|refine cdD (fun h=>?_) (fun h=>?_)|(refine gbT rfl (fun h=>?_) (fun h=>?_)<;>(try subst h))|(refine gbF rfl (fun h=>?_) (fun h=>?_)<;>(try subst h))|(refine cdB (fun h=>?_) (fun h=>?_)<;>(try subst h))|refine lOn Shp.eq (by (first|exact mem0|exact mem1|exact mem2|exact mem3|exact mem4|exact mem5)) rfl ?_|refine lAg Shp.eq (by (first|exact mem0|exact mem1|exact mem2|exact mem3|exact mem4|exact mem5)) rfl rfl ?_|refine newI (fun b hb hn=>?_)|refine stX 0 rfl Siz.eq rfl rfl (by simp[qC]) (by simp) ?_|refine stX 1 rfl Siz.eq rfl rfl (by simp[qC]) (by simp) ?_|refine stX 2 rfl Siz.eq rfl rfl (by simp[qC]) (by simp) ?_|refine stX 3 rfl Siz.eq rfl rfl (by simp[qC]) (by simp) ?_|refine stX 4 rfl Siz.eq rfl rfl (by simp[qC]) (by simp) ?_|refine stX 5 rfl Siz.eq rfl rfl (by simp[qC]) (by simp) ?_|refine stX 6 rfl Siz.eq rfl rfl (by simp[qC]) (by simp) ?_)<;>simp (disch:=omega) only[push_cast,qE,h1,h3,h4,h7,h8])|(first|rw[Vc]|rw[Vb])<;>(try simp (disch:=omega) only[push_cast,qE,h1,h3,h4,h7,h8]))
 all_goals (refine fun w' hw=>⟨_,rfl,hw.drop (List.nil_sublist _) (fun p hp=>.inr (by simp at hp; rw[hp]; assumption)),?_⟩)
 all_goals first
  | exact is_f (fun ⟨p1,p2,p3,p4,p5⟩=>by first|contradiction|omega)
  | exact is_d ⟨fun p=>⟨Decidable.not_not.1 hk,by assumption,by assumption,by assumption,p⟩,fun p=>p.2.2.2.2⟩
end Go.Proofs.YtilejcofleeeiaaGreatDoor
