/- YtilejcofleeeiaaGreatDoor: plain: letters, escapes, digits of base sixteen: what is written is read, what is read was written. -/
import Derived.Lib.ValidLaws
import Derived.Test.YtilejcofleeeiaaGreatDoorW211
namespace Go.Proofs.YtilejcofleeeiaaGreatDoor
open Go Go.K
open Nat renaming reduceEqDiff → qE
open Go.Value renaming oneCell' → qC
set_option maxRecDepth 100000
set_option linter.unusedVariables false
set_option linter.unusedSimpArgs false
set_option maxHeartbeats 4000000
def sizeU (b:Nat):Nat:=if b < 128 then 1 else if b < 194 then 0 else if b < 224 then 2 else if b < 240 then 3 else if b < 245 then 4 else 0
def lowU (b:Nat):Nat:=if b=224 then 160 else if b=240 then 144 else 128
def highU (b:Nat):Nat:=if b=237 then 159 else if b=244 then 143 else 191
theorem lead_tab:∀ b:Fin 256,128≤b.val→(194≤b.val∧b.val < 245→Lib.firstT b.val % 8=sizeU b.val∧Lib.accLo (Lib.firstT b.val / 16)=lowU b.val∧Lib.accHi (Lib.firstT b.val / 16)=highU b.val)∧(¬ (194≤b.val∧b.val < 245)→¬ Lib.firstT b.val % 8=2∧¬ Lib.firstT b.val % 8=3∧¬ Lib.firstT b.val % 8=4):=by decide +kernel
def utf8P (l:List UInt8):Nat :=
 if l=[] then 0 else if (l.getD 0 0).toNat < 128 then 1 else
 if sizeU (l.getD 0 0).toNat=0 then 0 else
 if l.length < sizeU (l.getD 0 0).toNat∨(l.getD 1 0).toNat < lowU (l.getD 0 0).toNat∨highU (l.getD 0 0).toNat < (l.getD 1 0).toNat then 0 else
 if ∃ i,i < sizeU (l.getD 0 0).toNat∧2≤i∧((l.getD i 0).toNat < 128∨191 < (l.getD i 0).toNat) then 0 else sizeU (l.getD 0 0).toNat
theorem sizeU_ways (b:Nat):sizeU b=0∨sizeU b=1∨sizeU b=2∨sizeU b=3∨sizeU b=4:=by unfold sizeU; (repeat' split)<;>omega
theorem valid_step (l:List UInt8) (hl:l≠[]):Lib.validD l=(if utf8P l=0 then false else Lib.validD (l.drop (utf8P l)))∧utf8P l≤l.length:=by
 have hlen:0 < l.length:=List.length_pos_iff.2 hl
 by_cases h0:(l.getD 0 0).toNat < 128
 ·have hu:utf8P l=1:=by unfold utf8P; rw[if_neg hl,if_pos h0]
  rw[hu]
  obtain ⟨b,t,rfl⟩:=List.exists_cons_of_ne_nil hl
  exact ⟨by rw[if_neg (by omega)]; exact Lib.validD_cons b t (un h0),hlen⟩
 ·obtain ⟨t1,t2⟩:=lead_tab ⟨(l.getD 0 0).toNat,(l.getD 0 0).toNat_lt⟩ (by simp only; omega)
  simp only at t1 t2
  rw[Lib.validD_lead l hl (by omega)]
  by_cases hr:194≤(l.getD 0 0).toNat∧(l.getD 0 0).toNat < 245
  ·obtain ⟨q1,q2,q3⟩:=t1 hr
   rw[q1,q2,q3]
   have hs:sizeU (l.getD 0 0).toNat=2∨sizeU (l.getD 0 0).toNat=3∨sizeU (l.getD 0 0).toNat=4:=by unfold sizeU; (repeat' split)<;>omega
   have hu:utf8P l=if l.length < sizeU (l.getD 0 0).toNat∨(l.getD 1 0).toNat < lowU (l.getD 0 0).toNat∨highU (l.getD 0 0).toNat < (l.getD 1 0).toNat then 0 else if ∃ i,i < sizeU (l.getD 0 0).toNat∧2≤i∧((l.getD i 0).toNat < 128∨191 < (l.getD i 0).toNat) then 0 else sizeU (l.getD 0 0).toNat:=by
    unfold utf8P; rw[if_neg hl,if_neg h0,if_neg (show ¬ sizeU (l.getD 0 0).toNat=0 by omega)]
   clear t1 t2 q1 q2 q3
   generalize lowU (l.getD 0 0).toNat=lo at hu ⊢
   generalize highU (l.getD 0 0).toNat=hi at hu ⊢
   generalize sizeU (l.getD 0 0).toNat=sz at hu hs ⊢
   unfold Lib.checkN
   by_cases c1:l.length < sz∨(l.getD 1 0).toNat < lo∨hi < (l.getD 1 0).toNat
   ·rw[if_pos c1] at hu
    rw[hu,if_pos rfl]
    refine ⟨?_,Nat.zero_le _⟩
    rcases hs with rfl|rfl|rfl
    ·rw[if_pos rfl,if_pos (by omega)]
    ·rw[if_neg (by omega),if_pos rfl,if_pos (by omega)]
    ·rw[if_neg (by omega),if_neg (by omega),if_pos rfl,if_pos (by omega)]
   ·rw[if_neg c1] at hu
    by_cases c2:∃ i,i < sz∧2≤i∧((l.getD i 0).toNat < 128∨191 < (l.getD i 0).toNat)
    ·rw[if_pos c2] at hu
     rw[hu,if_pos rfl]
     refine ⟨?_,Nat.zero_le _⟩
     obtain ⟨i,i1,i2,i3⟩:=c2
     rcases hs with rfl|rfl|rfl
     ·omega
     ·obtain rfl:i=2:=by omega
      rw[if_neg (by omega),if_pos rfl,if_pos (by omega)]
     ·rw[if_neg (by omega),if_neg (by omega),if_pos rfl,if_pos (by rcases (show i=2∨i=3 by omega) with rfl|rfl<;>omega)]
    ·rw[if_neg c2] at hu
     have c3:∀ i,i < sz→2≤i→¬ ((l.getD i 0).toNat < 128∨191 < (l.getD i 0).toNat):=fun i i1 i2 i3=>c2 ⟨i,i1,i2,i3⟩
     rw[hu,if_neg (show ¬ sz=0 by omega)]
     refine ⟨?_,by omega⟩
     rcases hs with rfl|rfl|rfl
     ·rw[if_pos rfl,if_neg (by omega)]
     ·have:=c3 2 (by omega) (by omega)
      rw[if_neg (by omega),if_pos rfl,if_neg (by omega)]
     ·have:=c3 2 (by omega) (by omega)
      have:=c3 3 (by omega) (by omega)
      rw[if_neg (by omega),if_neg (by omega),if_pos rfl,if_neg (by omega)]
  ·obtain ⟨q1,q2,q3⟩:=t2 hr
   have hu:utf8P l=0:=by
    unfold utf8P
    rw[if_neg hl,if_neg h0,if_pos (by unfold sizeU; (repeat' split)<;>omega)]
   rw[hu]
   refine ⟨?_,Nat.zero_le _⟩
   unfold Lib.checkN
   rw[if_neg q1,if_neg q2,if_neg q3]
   rfl
theorem getD_drop (l:List UInt8) (a i:Nat):(l.drop a).getD i 0=l.getD (a+i) 0:=by simp[List.getD,List.getElem?_drop]
theorem su0 {b:Nat} (h:128≤b) (h2:b < 194∨245≤b):sizeU b=0:=by unfold sizeU; (repeat' split)<;>omega
theorem su2 {b:Nat} (h:194≤b) (h2:b < 224):sizeU b=2:=by unfold sizeU; (repeat' split)<;>omega
theorem su3 {b:Nat} (h:224≤b) (h2:b < 240):sizeU b=3:=by unfold sizeU; (repeat' split)<;>omega
theorem su4 {b:Nat} (h:240≤b) (h2:b < 245):sizeU b=4:=by unfold sizeU; (repeat' split)<;>omega
structure U8I (w0:World) (l:List UInt8) (at' sz:Nat) (i:Nat) (wb:World) (e:Env) (ds:List Deferred) (L:Own):Prop where
 hw:wb=w0
 hds:ds=[]
 o:L=[]
 hi:2≤i∧i≤sz
 hr:∀ j,j < i→2≤j→¬ ((l.getD (at'+j) 0).toNat < 128∨191 < (l.getD (at'+j) 0).toNat)
 h0:e 0=str l
 h1:e 1=i64 at'
 h8:e 8=i64 sz
 h9:e 9=i64 i
structure U8A (w0:World) (l:List UInt8) (at':Nat) (wb:World) (e:Env) (ds:List Deferred) (L:Own):Prop where
 hw:wb=w0
 hds:ds=[]
 o:L=[]
 h0:e 0=str l
 h1:e 1=i64 at'
 g1:128≤(l.getD at' 0).toNat
 g2:2≤sizeU (l.getD at' 0).toNat
 h5:e 5=.int .u8 (l.getD at' 0).toNat
 h6:e 6=.int .u8 128
 h7:e 7=.int .u8 191
 h8:e 8=i64 (sizeU (l.getD at' 0).toNat)
structure U8B (w0:World) (l:List UInt8) (at':Nat) (wb:World) (e:Env) (ds:List Deferred) (L:Own):Prop where
 hw:wb=w0
 hds:ds=[]
 o:L=[]
 h0:e 0=str l
 h1:e 1=i64 at'
 h6:e 6=.int .u8 (lowU (l.getD at' 0).toNat:Nat)
 h7:e 7=.int .u8 (highU (l.getD at' 0).toNat:Nat)
 h8:e 8=i64 (sizeU (l.getD at' 0).toNat)
theorem utf8_walk (w:World) (l:List UInt8) (at':Nat) (hl:l.length≤4611686018427387904):Calls Tryz.prog 98 #[str l,i64 at'] w (Rets w (Is (i64 (utf8P (l.drop at'):Nat)))):=by
 refine enterT (args:=[str l,i64 at']) Tryz.func98 rfl Tryz.ntmps98 (congrArg Array.toList Tryz.results98) (by kernel_rfl) (by simp) (Sy.refl w) ?_
 refine sp ?_
 rw[Vc]
 refine sp ?_
 refine cdD (fun h=>?_) (fun h=>?_)
 ·refine sp ?_
  have hu:utf8P (l.drop at')=0:=by unfold utf8P; rw[if_pos (by rw[List.drop_eq_nil_iff]; omega)]
  exact finIs (by simp) (by rw[hu]; rfl)
 have hne:l.drop at'≠[]:=fun h0=>by rw[List.drop_eq_nil_iff] at h0; omega
 refine sp ?_
 have hat:at' < l.length:=by omega
 have h0d:=getD_drop l at' 0
 have h1d:=getD_drop l at' 1
 rw[Nat.add_zero] at h0d
 refine cutV (U8A w l at') ?_ ?_
 ·

  rw[Vb]
  have u1:(l.getD at' 0).toNat < 128→utf8P (l.drop at')=1:=fun q=>by unfold utf8P; rw[if_neg hne,h0d,if_pos q]
  have u0:128≤(l.getD at' 0).toNat→sizeU (l.getD at' 0).toNat=0→utf8P (l.drop at')=0:=fun q q2=>by unfold utf8P; rw[if_neg hne,h0d,if_neg (by omega),if_pos q2]
  refine sp ?_
  repeat' (first|((first|refine gT rfl (fun h=>?_) (fun h=>?_)|refine gF rfl (fun h=>?_) (fun h=>?_)|refine cdD (fun h=>?_) (fun h=>?_)|(refine gbT rfl (fun h=>?_) (fun h=>?_)<;>(try subst h))|(refine gbF rfl (fun h=>?_) (fun h=>?_)<;>(try subst h))|(refine cdB (fun h=>?_) (fun h=>?_)<;>(try subst h))|refine lOn Shp.eq (by (first|exact mem0|exact mem1|exact mem2|exact mem3|exact mem4|exact mem5)) rfl ?_|refine lAg Shp.eq (by (first|exact mem0|exact mem1|exact mem2|exact mem3|exact mem4|exact mem5)) rfl rfl ?_|refine newI (fun b hb hn=>?_)|refine stX 0 rfl Siz.eq rfl rfl (by simp[qC]) (by simp) ?_|refine stX 1 rfl Siz.eq rfl rfl (by simp[qC]) (by simp) ?_|refine stX 2 rfl Siz.eq rfl rfl (by simp[qC]) (by simp) ?_|refine stX 3 rfl Siz.eq rfl rfl (by simp[qC]) (by simp) ?_|refine stX 4 rfl Siz.eq rfl rfl (by simp[qC]) (by simp) ?_|refine stX 5 rfl Siz.eq rfl rfl (by simp[qC]) (by simp) ?_|refine stX 6 rfl Siz.eq rfl rfl (by simp[qC]) (by simp) ?_)<;>simp (disch:=omega) only[push_cast,qE])|(first|rw[Vc]|rw[Vb])<;>(try simp (disch:=omega) only[push_cast,qE]))
  all_goals first
   | exact finIs (by simp) (by rw[u1 (by omega)]; rfl)
   | exact finIs (by simp) (by rw[u0 (by omega) (su0 (by omega) (by omega))]; rfl)
   | exact ⟨rfl,rfl,rfl,rfl,rfl,by omega,by rw[su2 (by omega) (by omega)]; exact Nat.le_refl _,rfl,rfl,rfl,by rw[su2 (by omega) (by omega)]; rfl⟩
   | exact ⟨rfl,rfl,rfl,rfl,rfl,by omega,by rw[su3 (by omega) (by omega)]; omega,rfl,rfl,rfl,by rw[su3 (by omega) (by omega)]; rfl⟩
   | exact ⟨rfl,rfl,rfl,rfl,rfl,by omega,by rw[su4 (by omega) (by omega)]; omega,rfl,rfl,rfl,by rw[su4 (by omega) (by omega)]; rfl⟩

 ·rintro wb e ds L ⟨rfl,rfl,rfl,h0,h1,g128,gsz,h5,h6,h7,h8⟩
  simp (disch:=omega) only[push_cast,qE,h0,h1,h5,h6,h7,h8]
  refine cutV (U8B wb l at') ?_ ?_
  ·rw[Vb]
   simp (disch:=omega) only[push_cast,qE,h0,h1,h5,h6,h7,h8]
   repeat' (first|((first|refine gT rfl (fun h=>?_) (fun h=>?_)|refine gF rfl (fun h=>?_) (fun h=>?_)|refine cdD (fun h=>?_) (fun h=>?_)|(refine gbT rfl (fun h=>?_) (fun h=>?_)<;>(try subst h))|(refine gbF rfl (fun h=>?_) (fun h=>?_)<;>(try subst h))|(refine cdB (fun h=>?_) (fun h=>?_)<;>(try subst h))|refine lOn Shp.eq (by (first|exact mem0|exact mem1|exact mem2|exact mem3|exact mem4|exact mem5)) rfl ?_|refine lAg Shp.eq (by (first|exact mem0|exact mem1|exact mem2|exact mem3|exact mem4|exact mem5)) rfl rfl ?_|refine newI (fun b hb hn=>?_)|refine stX 0 rfl Siz.eq rfl rfl (by simp[qC]) (by simp) ?_|refine stX 1 rfl Siz.eq rfl rfl (by simp[qC]) (by simp) ?_|refine stX 2 rfl Siz.eq rfl rfl (by simp[qC]) (by simp) ?_|refine stX 3 rfl Siz.eq rfl rfl (by simp[qC]) (by simp) ?_|refine stX 4 rfl Siz.eq rfl rfl (by simp[qC]) (by simp) ?_|refine stX 5 rfl Siz.eq rfl rfl (by simp[qC]) (by simp) ?_|refine stX 6 rfl Siz.eq rfl rfl (by simp[qC]) (by simp) ?_)<;>simp (disch:=omega) only[push_cast,qE,h0,h1,h5,h6,h7,h8])|(first|rw[Vc]|rw[Vb])<;>(try simp (disch:=omega) only[push_cast,qE,h0,h1,h5,h6,h7,h8]))
   all_goals
    refine ⟨rfl,rfl,rfl,h0,h1,?_,?_,h8⟩
    all_goals first
     | exact h6.trans (congrArg (Value.int .u8) (by unfold lowU; (repeat' split)<;>omega))
     | exact h7.trans (congrArg (Value.int .u8) (by unfold highU; (repeat' split)<;>omega))
     | exact congrArg (Value.int .u8) (by unfold lowU; (repeat' split)<;>omega)
     | exact congrArg (Value.int .u8) (by unfold highU; (repeat' split)<;>omega)
  ·clear h0 h1 h5 h6 h7 h8 e
   rintro wb e ds L ⟨rfl,rfl,rfl,h0,h1,h6,h7,h8⟩
   have hu:utf8P (l.drop at')=if l.length - at' < sizeU (l.getD at' 0).toNat∨(l.getD (at'+1) 0).toNat < lowU (l.getD at' 0).toNat∨highU (l.getD at' 0).toNat < (l.getD (at'+1) 0).toNat then 0 else if ∃ i,i < sizeU (l.getD at' 0).toNat∧2≤i∧((l.getD (at'+i) 0).toNat < 128∨191 < (l.getD (at'+i) 0).toNat) then 0 else sizeU (l.getD at' 0).toNat:=by
    unfold utf8P; rw[if_neg hne,h0d,h1d,if_neg (by omega),if_neg (show ¬ sizeU (l.getD at' 0).toNat=0 by omega)]
    simp only[getD_drop,List.length_drop]
   have hs4:sizeU (l.getD at' 0).toNat≤4:=by have:=sizeU_ways (l.getD at' 0).toNat; omega
   generalize lowU (l.getD at' 0).toNat=lo at hu h6
   generalize highU (l.getD at' 0).toNat=hi at hu h7
   generalize sizeU (l.getD at' 0).toNat=sz at hu h8 gsz hs4
   simp (disch:=omega) only[push_cast,qE,h0,h1,h6,h7,h8]
   refine gF rfl (fun c1=>?_) (fun c1=>?_)
   rotate_left
   ·simp (disch:=omega) only[push_cast,qE,h0,h1,h6,h7,h8]
    rw[Vc]
    simp (disch:=omega) only[push_cast,qE,h0,h1,h6,h7,h8]
    exact finIs (by simp) (by rw[hu,if_pos (.inl (by omega))]; rfl)
   simp (disch:=omega) only[push_cast,qE,h0,h1,h6,h7,h8]
   refine gF rfl (fun c2=>?_) (fun c2=>?_)
   rotate_left
   ·simp (disch:=omega) only[push_cast,qE,h0,h1,h6,h7,h8]
    rw[Vc]
    simp (disch:=omega) only[push_cast,qE,h0,h1,h6,h7,h8]
    rw[show ((at':Int)+1).toNat=at'+1 by omega] at c2
    exact finIs (by simp) (by rw[hu,if_pos (.inr (.inl (by omega)))]; rfl)
   simp (disch:=omega) only[push_cast,qE,h0,h1,h6,h7,h8]
   rw[Vc]
   simp (disch:=omega) only[push_cast,qE,h0,h1,h6,h7,h8]
   refine cdD (fun c3=>?_) (fun c3=>?_)
   ·simp (disch:=omega) only[push_cast,qE,h0,h1,h6,h7,h8]
    rw[show ((at':Int)+1).toNat=at'+1 by omega] at c3
    exact finIs (by simp) (by rw[hu,if_pos (.inr (.inr (by omega)))]; rfl)
   simp (disch:=omega) only[push_cast,qE,h0,h1,h6,h7,h8]
   rw[show ((at':Int)+1).toNat=at'+1 by omega] at c2 c3
   rw[if_neg (by omega)] at hu
   rw[Vb]
   simp (disch:=omega) only[push_cast,qE,h0,h1,h6,h7,h8]
   refine loopW (G:=Nat) (U8I wb l at' sz) (fun i=>sz - i) 2 _ (fun w hw=>hw) (by kernel_rfl) ⟨rfl,rfl,rfl,by omega,fun j j1 j2=>by omega,h0,h1,h8,rfl⟩ ?_
   clear h0 h1 h6 h7 h8 e
   rintro i wb e ds L ⟨rfl,rfl,rfl,hi2,hr,h0,h1,h8,h9⟩
   simp (disch:=omega) only[push_cast,qE,h0,h1,h8,h9]
   rw[Vc]
   simp (disch:=omega) only[push_cast,qE,h0,h1,h8,h9]
   refine cdD (fun hlt=>?_) (fun hge=>?_)
   rotate_left
   ·obtain rfl:i=sz:=by omega
    simp (disch:=omega) only[push_cast,qE,h0,h1,h8,h9]
    exact finIs (by simp) (by rw[hu,if_neg (fun ⟨j,j1,j2,j3⟩=>hr j j1 j2 j3)])
   simp (disch:=omega) only[push_cast,qE,h0,h1,h8,h9]
   rw[Vb]
   simp (disch:=omega) only[push_cast,qE,h0,h1,h8,h9]
   have et:((at':Int)+i).toNat=at'+i:=by omega
   refine gF rfl (fun q1=>?_) (fun q1=>?_)
   rotate_left
   ·simp (disch:=omega) only[push_cast,qE,h0,h1,h8,h9]
    rw[Vc]
    simp (disch:=omega) only[push_cast,qE,h0,h1,h8,h9]
    rw[et] at q1
    exact finIs (by simp) (by rw[hu,if_pos ⟨i,by omega,by omega,.inl (by omega)⟩]; rfl)
   simp (disch:=omega) only[push_cast,qE,h0,h1,h8,h9]
   rw[Vc]
   simp (disch:=omega) only[push_cast,qE,h0,h1,h8,h9]
   refine cdD (fun q2=>?_) (fun q2=>?_)
   ·simp (disch:=omega) only[push_cast,qE,h0,h1,h8,h9]
    rw[et] at q1 q2
    exact finIs (by simp) (by rw[hu,if_pos ⟨i,by omega,by omega,.inr (by omega)⟩]; rfl)
   ·simp (disch:=omega) only[push_cast,qE,h0,h1,h8,h9]
    rw[et] at q1 q2
    refine ⟨i+1,_,fun w hw=>hw,⟨rfl,rfl,rfl,by omega,fun j j1 j2=>?_,h0,h1,h8,uu⟩,by omega⟩
    by_cases hj:j < i
    ·exact hr j hj j2
    ·obtain rfl:j=i:=by omega
     omega
structure LeI (w0:World) (l:List UInt8) (i:Nat) (wb:World) (e:Env) (ds:List Deferred) (L:Own):Prop where
 hw:wb=w0
 hds:ds=[]
 o:L=[]
 hi:i≤l.length
 hr:Lib.validD (l.drop i)=Lib.validD l
 h0:e 0=str l
 h3:e 3=i64 i
theorem letters_walk (w:World) (l:List UInt8) (hl:l.length≤4611686018427387904):Calls Tryz.prog 110 #[str l] w (Rets w (Is (.bool (Lib.validD l)))):=by
 refine enterT (args:=[str l]) Tryz.func110 rfl Tryz.ntmps110 (congrArg Array.toList Tryz.results110) (by kernel_rfl) (by simp) (Sy.refl w) ?_
 refine sp ?_
 rw[Vb]
 refine sp ?_
 refine loopW (G:=Nat) (LeI w l) (fun i=>l.length - i) 0 _ (fun w hw=>hw) (by kernel_rfl) ⟨rfl,rfl,rfl,by omega,rfl,rfl,rfl⟩ ?_
 rintro i wb e ds L ⟨rfl,rfl,rfl,hi,hr,h0,h3⟩
 simp (disch:=omega) only[push_cast,qE,h0,h3]
 rw[Vc]
 simp (disch:=omega) only[push_cast,qE,h0,h3]
 refine cdD (fun hlt=>?_) (fun hge=>?_)
 rotate_left
 ·obtain rfl:i=l.length:=by omega
  simp (disch:=omega) only[push_cast,qE,h0,h3]
  exact finIs (by simp) (by rw[← hr,List.drop_length]; rfl)
 simp (disch:=omega) only[push_cast,qE,h0,h3]
 rw[Vb]
 simp (disch:=omega) only[push_cast,qE,h0,h3]
 refine callV en_98 (cIs (fun w' hw'=>utf8_walk w' l i hl) ?_)
 obtain ⟨v1,v2⟩:=valid_step (l.drop i) (by intro h; rw[List.drop_eq_nil_iff] at h; omega)
 rw[List.length_drop] at v2
 generalize utf8P (l.drop i)=k at v1 v2 ⊢
 simp (disch:=omega) only[push_cast,qE,h0,h3]
 rw[Vc]
 simp (disch:=omega) only[push_cast,qE,h0,h3]
 refine cdD (fun hz=>?_) (fun hz=>?_)
 ·simp (disch:=omega) only[push_cast,qE,h0,h3]
  exact finIs (by simp) (by rw[← hr,v1,if_pos (by omega)])
 ·simp (disch:=omega) only[push_cast,qE,h0,h3]
  refine ⟨i+k,_,fun w hw=>hw,⟨rfl,rfl,rfl,by omega,?_,h0,uu⟩,by omega⟩
  rw[← hr,v1,if_neg (by omega),List.drop_drop]
inductive PV (α:Type) where
 | no (e:Int) (q:Nat)
 | ok (x:α) (q:Nat)
def PV.and {α β:Type}:PV α→(α→Nat→PV β)→PV β
 | .no e q,_=>.no e q
 | .ok x q,f=>f x q
theorem PV.and_no {α β:Type} (e:Int) (q:Nat) (f:α→Nat→PV β):PV.and (.no e q) f=.no e q:=rfl
theorem PV.and_ok {α β:Type} (x:α) (q:Nat) (f:α→Nat→PV β):PV.and (.ok x q) f=f x q:=rfl
theorem PV.and_and {α β γ:Type} (r:PV α) (f:α→Nat→PV β) (g:β→Nat→PV γ):(r.and f).and g=r.and fun x q=>(f x q).and g:=by cases r<;>rfl
theorem PV.and_eq_ok {α β:Type} {r:PV α} {f:α→Nat→PV β} {y:β} {q:Nat} (h:r.and f=.ok y q):∃ x p,r=.ok x p∧f x p=.ok y q:=by
 cases r with
 | no e p=>cases h
 | ok x p=>exact ⟨x,p,rfl,h⟩
def mustV (s t:List UInt8) (q:Nat):PV Unit:=if t.isPrefixOf (s.drop q) then .ok () (q+t.length) else .no 8 q
def escR (l:List UInt8):Option (UInt8×Nat):=((List.range 128).find? fun c=>!(escP (UInt8.ofNat c)).isEmpty && (escP (UInt8.ofNat c)).isPrefixOf l).map fun c=>(UInt8.ofNat c,(escP (UInt8.ofNat c)).length)
def restV (s:List UInt8):Nat→Nat→PV (List UInt8)
 | 0,q=>.no 8 q
 | m+1,q=>match s[q]? with
  | none=>.no 8 q
  | some c=>if c.toNat=34 then .ok [] (q+1)
   else if c.toNat=92 then (match escR (s.drop q) with|none=>.no 8 q|some (x,n)=>(restV s m (q+n)).and fun l r=>.ok (x::l) r)
   else if escP c≠[]∨utf8P (s.drop q)=0 then .no 8 q
   else (restV s m (q+utf8P (s.drop q))).and fun l r=>.ok ((s.drop q).take (utf8P (s.drop q))++l) r
def quoteV (s:List UInt8) (q:Nat):PV (List UInt8):=(mustV s [34] q).and fun _ r=>restV s (s.length+1) r
def digV (c:UInt8):Option Nat:=if 48≤c.toNat∧c.toNat≤57 then some (c.toNat - 48) else if 97≤c.toNat∧c.toNat≤102 then some (c.toNat - 87) else none
def digAt (s:List UInt8) (q:Nat):PV Nat:=match (s[q]?).bind digV with
 | none=>.no 8 q
 | some d=>.ok d (q+1)
def hexV (s:List UInt8):Nat→Nat→PV (List UInt8)
 | 0,q=>.no 8 q
 | m+1,q=>if s[q]?=some 34 then .ok [] (q+1) else (digAt s q).and fun a r=>(digAt s r).and fun b r2=>(hexV s m r2).and fun l r3=>.ok (UInt8.ofNat (16 * a+b)::l) r3
def rawV (s:List UInt8) (q:Nat):PV (List UInt8):=(mustV s [120,34] q).and fun _ r=>hexV s (s.length+1) r
def itemsV (s:List UInt8) (k wd:Int) (R:Nat→PV Vl):Nat→Nat→Nat→PV (List Vl)
 | 0,_,q=>.no 8 q
 | m+1,i,q=>if k=16∧(i:Int)=wd then (mustV s [93] q).and fun _ r=>.ok [] r
  else if k=15∧s[q]?=some 93 then .ok [] (q+1)
  else ((if i=0 then .ok () q else mustV s [44] q:PV Unit)).and fun _ r=>if k=15∧i=4096 then .no 3 r else (R r).and fun v r2=>(itemsV s k wd R m (i+1) r2).and fun l r3=>.ok (v::l) r3
def kidsV (s:List UInt8) (R:Fld→Nat→PV Vl):Bool→List Fld→Nat→PV (List Vl)
 | _,[],q=>(mustV s [125] q).and fun _ r=>.ok [] r
 | first,g::l,q=>((if first then .ok () q else mustV s [44] q:PV Unit)).and fun _ r=>(mustV s (g.nm++[58]) r).and fun _ r=>(R g r).and fun v r=>(kidsV s R false l r).and fun vs r=>.ok (v::vs) r
def smallB (c:UInt8):Bool:=decide (48≤c.toNat∧c.toNat≤57∨97≤c.toNat∧c.toNat≤122∨c.toNat=45)
def nameB (c:UInt8):Bool:=decide (letterP c.toNat)
def opensB (s:List UInt8) (q:Nat):Bool:=match s[q]? with
 | none=>false
 | some c=>decide (c.toNat=40) || nameB c
def choiceV (s:List UInt8) (R:Fld→Nat→PV Vl) (l:List Fld) (q:Nat):PV Vl :=
 match l.findIdx? (fun g=>g.nm == rowP nameB s q),l.find? (fun g=>g.nm == rowP nameB s q) with
 | some i,some g=>(mustV s [40] (runP nameB s q)).and fun _ r=>(R g r).and fun v r=>(mustV s [41] r).and fun _ r=>.ok (.mk false i [] [v]) r
 | _,_=>.no 8 q
noncomputable def readV (s:List UInt8):Nat→Fld→Nat→PV Vl
 | 0,_,q=>.no 8 q
 | d+1,f,q =>
  if letsP f=true∧rowP smallB s q=nullT∧opensB s (q+4)=false then .ok (.mk true 0 [] []) (q+4)
  else if f.k=19∨f.k=20 then (match f.sub[0]? with|some g=>readV s d g q|none=>.no 8 q)
  else if f.k=12 then (quoteV s q).and fun t r=>.ok (.mk false 0 t []) r
  else if f.k=13 then (rawV s q).and fun t r=>.ok (.mk false 0 t []) r
  else if f.k=14 then (rawV s q).and fun t r=>if (t.length:Int)=f.wd then .ok (.mk false 0 t []) r else .no 8 q
  else if f.k=15∨f.k=16 then (mustV s [91] q).and fun _ r=>(itemsV s f.k f.wd (fun r=>match f.sub[0]? with|some g=>readV s d g r|none=>.no 8 r) 4200 0 r).and fun l r=>.ok (.mk false 0 [] l) r
  else if f.k=17 then (mustV s [123] q).and fun _ r=>(kidsV s (readV s d) true f.sub r).and fun l r=>.ok (.mk false 0 [] l) r
  else if f.k=18 then choiceV s (readV s d) f.sub q
  else match readN f.k (rowP smallB s q) with
   | some n=>.ok (.mk false n [] []) (runP smallB s q)
   | none=>.no 8 q
noncomputable def parseVP (f:Fld) (s:List UInt8):Vl×Int×Nat :=
 if mayD f=false then (.mk false 0 [] [],5,0) else if 65536 < s.length then (.mk false 0 [] [],4,0) else
 match readV s 64 f 0 with
 | .no e q=>(.mk false 0 [] [],e,q)
 | .ok v q=>if q < s.length then (.mk false 0 [] [],8,q) else (v,0,0)
def printP (f:Fld) (v:Vl):List UInt8×Int :=
 if fitsP f v≠0 then ([],fitsP f v) else if 65536 < (showV 64 f v).length then ([],4) else (showV 64 f v,0)
/-! Letters. -/
theorem check_utf8 (l:List UInt8) (hl:l≠[]) (h0:128≤(l.getD 0 0).toNat) :
 Lib.checkN l.length (l.getD 1 0).toNat (l.getD 2 0).toNat (l.getD 3 0).toNat (Lib.firstT (l.getD 0 0).toNat % 8) (Lib.accLo (Lib.firstT (l.getD 0 0).toNat / 16)) (Lib.accHi (Lib.firstT (l.getD 0 0).toNat / 16))=if utf8P l=0 then none else some (utf8P l):=by
 have hlen:0 < l.length:=List.length_pos_iff.2 hl
 obtain ⟨t1,t2⟩:=lead_tab ⟨(l.getD 0 0).toNat,(l.getD 0 0).toNat_lt⟩ (by simp only; omega)
 simp only at t1 t2
 by_cases hr:194≤(l.getD 0 0).toNat∧(l.getD 0 0).toNat < 245
 ·obtain ⟨q1,q2,q3⟩:=t1 hr
  rw[q1,q2,q3]
  have hs:sizeU (l.getD 0 0).toNat=2∨sizeU (l.getD 0 0).toNat=3∨sizeU (l.getD 0 0).toNat=4:=by unfold sizeU; (repeat' split)<;>omega
  have hu:utf8P l=if l.length < sizeU (l.getD 0 0).toNat∨(l.getD 1 0).toNat < lowU (l.getD 0 0).toNat∨highU (l.getD 0 0).toNat < (l.getD 1 0).toNat then 0 else if ∃ i,i < sizeU (l.getD 0 0).toNat∧2≤i∧((l.getD i 0).toNat < 128∨191 < (l.getD i 0).toNat) then 0 else sizeU (l.getD 0 0).toNat:=by
   unfold utf8P; rw[if_neg hl,if_neg (by omega),if_neg (show ¬ sizeU (l.getD 0 0).toNat=0 by omega)]
  clear t1 t2 q1 q2 q3
  generalize lowU (l.getD 0 0).toNat=lo at hu ⊢
  generalize highU (l.getD 0 0).toNat=hi at hu ⊢
  generalize sizeU (l.getD 0 0).toNat=sz at hu hs ⊢
  unfold Lib.checkN
  by_cases c1:l.length < sz∨(l.getD 1 0).toNat < lo∨hi < (l.getD 1 0).toNat
  ·rw[if_pos c1] at hu
   rw[hu,if_pos rfl]
   rcases hs with rfl|rfl|rfl
   ·rw[if_pos rfl,if_pos (by omega)]
   ·rw[if_neg (by omega),if_pos rfl,if_pos (by omega)]
   ·rw[if_neg (by omega),if_neg (by omega),if_pos rfl,if_pos (by omega)]
  ·rw[if_neg c1] at hu
   by_cases c2:∃ i,i < sz∧2≤i∧((l.getD i 0).toNat < 128∨191 < (l.getD i 0).toNat)
   ·rw[if_pos c2] at hu
    rw[hu,if_pos rfl]
    obtain ⟨i,i1,i2,i3⟩:=c2
    rcases hs with rfl|rfl|rfl
    ·omega
    ·obtain rfl:i=2:=by omega
     rw[if_neg (by omega),if_pos rfl,if_pos (by omega)]
    ·rw[if_neg (by omega),if_neg (by omega),if_pos rfl,if_pos (by rcases (show i=2∨i=3 by omega) with rfl|rfl<;>omega)]
   ·rw[if_neg c2] at hu
    have c3:∀ i,i < sz→2≤i→¬ ((l.getD i 0).toNat < 128∨191 < (l.getD i 0).toNat):=fun i i1 i2 i3=>c2 ⟨i,i1,i2,i3⟩
    rw[hu,if_neg (show ¬ sz=0 by omega)]
    rcases hs with rfl|rfl|rfl
    ·rw[if_pos rfl,if_neg (by omega)]
    ·have:=c3 2 (by omega) (by omega)
     rw[if_neg (by omega),if_pos rfl,if_neg (by omega)]
    ·have:=c3 2 (by omega) (by omega)
     have:=c3 3 (by omega) (by omega)
     rw[if_neg (by omega),if_neg (by omega),if_pos rfl,if_neg (by omega)]
 ·obtain ⟨q1,q2,q3⟩:=t2 hr
  have hu:utf8P l=0:=by
   unfold utf8P
   rw[if_neg hl,if_neg (by omega),if_pos (by unfold sizeU; (repeat' split)<;>omega)]
  rw[hu,if_pos rfl]
  unfold Lib.checkN
  rw[if_neg q1,if_neg q2,if_neg q3]
theorem utf8_low {l:List UInt8} (hl:l≠[]) (h0:(l.getD 0 0).toNat < 128):utf8P l=1:=by unfold utf8P; rw[if_neg hl,if_pos h0]
theorem decode_utf8 (l:List UInt8) (hl:l≠[]):(utf8P l=0→Lib.decodeL l=(65533,1))∧(utf8P l≠0→(Lib.decodeL l).2=utf8P l∧¬ ((Lib.decodeL l).1=65533∧(Lib.decodeL l).2=1)):=by
 have hlen:0 < l.length:=List.length_pos_iff.2 hl
 by_cases h0:(l.getD 0 0).toNat < 128
 ·have hu:=utf8_low hl h0
  obtain ⟨b,t,rfl⟩:=List.exists_cons_of_ne_nil hl
  have hb:b.toNat < 128:=by simpa using h0
  rw[hu,Lib.decodeL_ascii b t hb]
  exact ⟨fun h=>by omega,fun _=>⟨rfl,fun h=>by have:=h.1; simp only at this; omega⟩⟩
 ·have hc:=check_utf8 l hl (by omega)
  rw[Lib.decodeL_N]
  rcases Lib.check_decode l.length (l.getD 0 0).toNat (l.getD 1 0).toNat (l.getD 2 0).toNat (l.getD 3 0).toNat hlen (by omega) (l.getD 0 0).toNat_lt (l.getD 1 0).toNat_lt (l.getD 2 0).toNat_lt (l.getD 3 0).toNat_lt with ⟨h1,h2⟩|⟨k,hk,h1,h2⟩
  ·rw[hc] at h1
   split at h1
   ·rename_i hu
    exact ⟨fun _=>h2,fun h=>absurd hu h⟩
   ·cases h1
  ·rw[hc] at h1
   split at h1
   ·cases h1
   ·rename_i hu
    have e:utf8P l=k:=Option.some.inj h1
    exact ⟨fun h=>absurd h hu,fun _=>⟨by rw[h2,e],fun h=>by omega⟩⟩
theorem utf8_le (l:List UInt8) (hl:l≠[]):utf8P l≤l.length:=(valid_step l hl).2
theorem utf8_nil:utf8P []=0:=by unfold utf8P; rw[if_pos rfl]
theorem utf8_head {l:List UInt8} (h:utf8P l≠0) (x:List UInt8):utf8P (l.take (utf8P l)++x)=utf8P l∧(utf8P l=1∧(l.getD 0 0).toNat < 128∨∀ c∈l.take (utf8P l),128≤c.toNat):=by
 have hl:l≠[]:=fun e=>by rw[e] at h; exact h utf8_nil
 have hle:=utf8_le l hl
 have hg:∀ i,i < utf8P l→(l.take (utf8P l)++x).getD i 0=l.getD i 0:=fun i hi=>by
  simp only[List.getD_eq_getElem?_getD]
  rw[List.getElem?_append_left (by rw[List.length_take]; omega),List.getElem?_take_of_lt hi]
 have hlt:(l.take (utf8P l)).length=utf8P l:=by rw[List.length_take]; omega
 have hne:l.take (utf8P l)++x≠[]:=fun e=>by
  rw[(List.append_eq_nil_iff.1 e).1] at hlt
  exact h hlt.symm
 by_cases h0:(l.getD 0 0).toNat < 128
 ·have hu:=utf8_low hl h0
  refine ⟨?_,.inl ⟨hu,h0⟩⟩
  rw[utf8_low hne (by rw[hg 0 (by omega)]; exact h0),hu]
 ·have hs:sizeU (l.getD 0 0).toNat≠0:=fun e=>h (by unfold utf8P; rw[if_neg hl,if_neg h0,if_pos e])
  have key:∀ m:List UInt8,m≠[]→m.getD 0 0=l.getD 0 0→utf8P m=if m.length < sizeU (l.getD 0 0).toNat∨(m.getD 1 0).toNat < lowU (l.getD 0 0).toNat∨highU (l.getD 0 0).toNat < (m.getD 1 0).toNat then 0 else if ∃ i,i < sizeU (l.getD 0 0).toNat∧2≤i∧((m.getD i 0).toNat < 128∨191 < (m.getD i 0).toNat) then 0 else sizeU (l.getD 0 0).toNat:=fun m hm e=>by
   unfold utf8P
   rw[if_neg hm,e,if_neg h0,if_neg hs]
  have k1:=key l hl rfl
  by_cases c1:l.length < sizeU (l.getD 0 0).toNat∨(l.getD 1 0).toNat < lowU (l.getD 0 0).toNat∨highU (l.getD 0 0).toNat < (l.getD 1 0).toNat
  ·rw[if_pos c1] at k1; exact absurd k1 h
  rw[if_neg c1] at k1
  by_cases c2:∃ i,i < sizeU (l.getD 0 0).toNat∧2≤i∧((l.getD i 0).toNat < 128∨191 < (l.getD i 0).toNat)
  ·rw[if_pos c2] at k1; exact absurd k1 h
  rw[if_neg c2] at k1
  have hlo:128≤lowU (l.getD 0 0).toNat:=by unfold lowU; (repeat' split)<;>omega
  have hsz:2≤sizeU (l.getD 0 0).toNat:=by
   unfold sizeU at hs ⊢
   rw[if_neg h0] at hs ⊢
   revert hs
   (repeat' split)<;>omega
  have k2:=key (l.take (utf8P l)++x) hne (hg 0 (by omega))
  refine ⟨?_,.inr fun c hc=>?_⟩
  ·rw[k2,if_neg,if_neg,← k1]
   ·rintro ⟨i,i1,i2,i3⟩
    rw[hg i (by omega)] at i3
    exact c2 ⟨i,i1,i2,i3⟩
   ·rw[hg 1 (by omega)]
    rintro (i1|i1)
    ·rw[List.length_append,List.length_take] at i1; omega
    ·exact c1 (.inr i1)
  ·obtain ⟨i,hi⟩:=List.mem_iff_getElem?.1 hc
   have hil:=(List.getElem?_eq_some_iff.1 hi).1
   rw[List.length_take] at hil
   rw[List.getElem?_take_of_lt (by omega)] at hi
   have e:c=l.getD i 0:=by rw[List.getD_eq_getElem?_getD,hi]; rfl
   rw[e]
   match i with
   | 0=>omega
   | 1=>omega
   | i+2 =>
    rcases Nat.lt_or_ge (l.getD (i+2) 0).toNat 128 with h9|h9
    ·exact absurd ⟨i+2,by omega,by omega,.inl h9⟩ c2
    ·exact h9
theorem esc_high {c:UInt8} (h:128≤c.toNat):escP c=[]:=by
 unfold escP
 rw[if_neg (by omega),if_neg (by omega),if_neg (by omega),if_neg (by omega),if_neg (by omega),if_neg (by omega)]
theorem char_plain {c:UInt8} (h:escP c=[]):charT c=[c]:=by unfold charT; rw[if_pos h]
theorem flat_plain:∀ (l:List UInt8),(∀ c∈l,escP c=[])→l.flatMap charT=l
 | [],_=>rfl
 | c::l,h=>by rw[List.flatMap_cons,char_plain (h c (.head _)),flat_plain l (fun x hx=>h x (.tail _ hx))]; rfl
/-! Escapes. -/
theorem byte_low (n:Nat) (h:n < 128):(UInt8.ofNat n).toNat=n:=by rw[UInt8.toNat_ofNat']; omega
theorem escs_apart:∀ a:Fin 128,∀ b:Fin 128,escP (UInt8.ofNat a.val)≠[]→(escP (UInt8.ofNat a.val)).isPrefixOf (escP (UInt8.ofNat b.val))=true→a=b:=by decide +kernel
theorem esc_low {c:UInt8} (h:escP c≠[]):c.toNat < 128:=by
 rcases Nat.lt_or_ge c.toNat 128 with h1|h1
 ·exact h1
 ·exact absurd (esc_high h1) h
theorem pre_pre {a b x:List UInt8} (h1:a <+: b++x) (h2:a.length≤b.length):a <+: b:=by
 obtain ⟨t,ht⟩:=h1
 refine List.prefix_iff_eq_take.2 ?_
 have:=congrArg (List.take a.length) ht
 rw[List.take_left,List.take_append_of_le_length h2] at this
 exact this
theorem esc_two {c:UInt8} (h:escP c≠[]):(escP c).length=2∨(escP c).length=4:=by
 unfold escP at h ⊢
 (repeat' split)<;>first|exact .inl rfl|exact .inr rfl|(rename_i q1 q2 q3 q4 q5 q6; rw[if_neg q1,if_neg q2,if_neg q3,if_neg q4,if_neg q5,if_neg q6] at h; exact absurd rfl h)
theorem esc_same {a b:UInt8} {l:List UInt8} (ha:escP a≠[]) (hb:escP b≠[]) (h1:escP a <+: l) (h2:escP b <+: l):a=b:=by
 have key:∀ a b:UInt8,escP a≠[]→escP b≠[]→escP a <+: escP b→a=b:=fun a b ha hb h=>by
  have la:=esc_low ha
  have lb:=esc_low hb
  have ea:UInt8.ofNat a.toNat=a:=UInt8.ofNat_toNat
  have eb:UInt8.ofNat b.toNat=b:=UInt8.ofNat_toNat
  have:=escs_apart ⟨a.toNat,la⟩ ⟨b.toNat,lb⟩ (by rw[ea]; exact ha) (by rw[ea,eb]; exact List.isPrefixOf_iff_prefix.2 h)
  have h9:a.toNat=b.toNat:=Fin.mk.inj this
  exact UInt8.toNat_inj.1 h9
 rcases Nat.le_total (escP a).length (escP b).length with h|h
 ·exact key a b ha hb (List.prefix_of_prefix_length_le h1 h2 h)
 ·exact (key b a hb ha (List.prefix_of_prefix_length_le h2 h1 h)).symm
theorem escR_some {l:List UInt8} {c:UInt8} {n:Nat} (h:escR l=some (c,n)):escP c≠[]∧escP c <+: l∧n=(escP c).length∧c.toNat < 128:=by
 unfold escR at h
 obtain ⟨i,h1,h2⟩:=Option.map_eq_some_iff.1 h
 have h3:=List.find?_some h1
 have h4:=List.mem_range.1 (List.mem_of_find?_eq_some h1)
 simp only[Bool.and_eq_true,Bool.not_eq_true',List.isEmpty_eq_false_iff,List.isPrefixOf_iff_prefix] at h3
 cases h2
 exact ⟨h3.1,h3.2,rfl,by rw[byte_low i h4]; exact h4⟩
theorem escR_yes {l:List UInt8} {c:UInt8} (h:escP c≠[]) (hp:escP c <+: l):escR l=some (c,(escP c).length):=by
 cases he:escR l with
 | none =>
  exfalso
  unfold escR at he
  rw[Option.map_eq_none_iff,List.find?_eq_none] at he
  refine he c.toNat (List.mem_range.2 (esc_low h)) ?_
  simp only[Bool.and_eq_true,Bool.not_eq_true',List.isEmpty_eq_false_iff,List.isPrefixOf_iff_prefix]
  rw[UInt8.ofNat_toNat]
  exact ⟨h,hp⟩
 | some p =>
  obtain ⟨x,n⟩:=p
  obtain ⟨q1,q2,rfl,_⟩:=escR_some he
  rw[esc_same q1 h q2 hp]
/-! Digits of base sixteen. -/
theorem digV_some {c:UInt8} {n:Nat} (h:digV c=some n):n < 16∧hexC n=c:=by
 unfold digV at h
 split at h
 ·cases h
  refine ⟨by omega,UInt8.toNat_inj.1 ?_⟩
  rw[hexC_nat (by omega),if_pos (by omega)]
  omega
 ·split at h
  ·cases h
   refine ⟨by omega,UInt8.toNat_inj.1 ?_⟩
   rw[hexC_nat (by omega),if_neg (by omega)]
   omega
  ·cases h
/-! Bytes that must stand. -/
theorem mustV_some {s t:List UInt8} {q r:Nat} {u:Unit} (h:mustV s t q=.ok u r):s.drop q=t++s.drop r∧r=q+t.length:=by
 unfold mustV at h
 split at h
 ·rename_i h1
  cases h
  refine ⟨?_,rfl⟩
  obtain ⟨x,hx⟩:=List.isPrefixOf_iff_prefix.1 h1
  rw[← List.drop_drop,← hx,List.drop_left]
 ·cases h
theorem mustV_yes {s t x:List UInt8} {q:Nat} (h:s.drop q=t++x):mustV s t q=.ok () (q+t.length):=by
 unfold mustV
 rw[if_pos (List.isPrefixOf_iff_prefix.2 (by rw[h]; exact List.prefix_append _ _))]
theorem drop_to {s t x:List UInt8} {q:Nat} (h:s.drop q=t++x):s.drop (q+t.length)=x:=by
 rw[← List.drop_drop,h,List.drop_left]
theorem drop_cons {s x:List UInt8} {q:Nat} {c:UInt8} (h:s.drop q=c::x):s[q]?=some c∧s.drop (q+1)=x:=by
 refine ⟨?_,?_⟩
 ·have:=congrArg (fun l=>l[0]?) h
  simpa [List.getElem?_drop] using this
 ·have:=congrArg (List.drop 1) h
  rw[List.drop_drop] at this
  simpa using this
theorem cons_drop {s:List UInt8} {q:Nat} {c:UInt8} (h:s[q]?=some c):s.drop q=c::s.drop (q+1):=by
 obtain ⟨h1,rfl⟩:=List.getElem?_eq_some_iff.1 h
 exact List.drop_eq_getElem_cons h1
theorem drop_of {l x:List UInt8} {n:Nat} (h:n≤l.length):(l.take n++x).drop n=x:=by
 have:=List.drop_left (l₁:=l.take n) (l₂:=x)
 rwa [List.length_take,Nat.min_eq_left h] at this
/-! Texts. -/
theorem restV_some (s:List UInt8):∀ (m q:Nat) (l:List UInt8) (r:Nat),restV s m q=.ok l r→s.drop q=l.flatMap charT++34::s.drop r∧Lib.validD l=true
 | 0,q,l,r,h=>by cases h
 | m+1,q,l,r,h=>by
  rw[restV] at h
  cases hc:s[q]? with
  | none=>rw[hc] at h; cases h
  | some c =>
   rw[hc] at h
   simp only at h
   have hd:=cons_drop hc
   split at h
   ·rename_i h34
    cases h
    rw[hd]
    exact ⟨by rw[show c=34 from UInt8.toNat_inj.1 h34]; rfl,rfl⟩
   ·split at h
    ·cases he:escR (s.drop q) with
     | none=>rw[he] at h; cases h
     | some p =>
      obtain ⟨x,n⟩:=p
      rw[he] at h
      simp only at h
      obtain ⟨l',r',h1,h2⟩:=PV.and_eq_ok h
      cases h2
      obtain ⟨q1,q2,q3,hlow⟩:=escR_some he
      have ih:=restV_some s m _ _ _ h1
      refine ⟨?_,by rw[Lib.validD_cons _ _ hlow]; exact ih.2⟩
      obtain ⟨t,ht⟩:=q2
      have hdr:s.drop (q+n)=t:=by rw[q3]; exact drop_to ht.symm
      rw[List.flatMap_cons,show charT x=escP x by unfold charT; rw[if_neg q1],← ht,List.append_assoc,← ih.1,hdr]
    ·split at h
     ·cases h
     ·rename_i hx
      have hx1:escP c=[]:=Decidable.not_not.1 fun e=>hx (.inl e)
      have hx2:utf8P (s.drop q)≠0:=fun e=>hx (.inr e)
      obtain ⟨l',r',h1,h2⟩:=PV.and_eq_ok h
      cases h2
      have ih:=restV_some s m _ _ _ h1
      obtain ⟨u1,u2⟩:=utf8_head hx2 l'
      have hne:s.drop q≠[]:=fun e=>by rw[e] at hx2; exact hx2 utf8_nil
      have hle:=utf8_le _ hne
      have hpl:∀ y∈(s.drop q).take (utf8P (s.drop q)),escP y=[]:=fun y hy=>by
       rcases u2 with ⟨u2,u3⟩|u2
       ·rw[u2,hd] at hy
        simp only[List.take_succ_cons,List.take_zero,List.mem_singleton] at hy
        rw[hy]; exact hx1
       ·exact esc_high (u2 y hy)
      refine ⟨?_,?_⟩
      ·rw[List.flatMap_append,flat_plain _ hpl,List.append_assoc,← ih.1,← List.drop_drop,List.take_append_drop]
      ·have hlt:((s.drop q).take (utf8P (s.drop q))).length=utf8P (s.drop q):=by rw[List.length_take]; omega
       have hn2:(s.drop q).take (utf8P (s.drop q))++l'≠[]:=fun e=>by
        rw[(List.append_eq_nil_iff.1 e).1] at hlt
        exact hx2 hlt.symm
       rw[(valid_step _ hn2).1,u1,if_neg hx2,drop_of (by omega)]
       exact ih.2
/-! Bytes. -/
theorem hexV_some (s:List UInt8):∀ (m q:Nat) (l:List UInt8) (r:Nat),hexV s m q=.ok l r→s.drop q=l.flatMap byteT++34::s.drop r
 | 0,q,l,r,h=>by cases h
 | m+1,q,l,r,h=>by
  rw[hexV] at h
  split at h
  ·rename_i hc
   cases h
   exact cons_drop hc
  ·have dg:∀ {q a r},digAt s q=.ok a r→s.drop q=hexC a::s.drop r∧a < 16:=fun {q a r} h=>by
    unfold digAt at h
    split at h
    ·cases h
    ·rename_i d hd
     cases h
     obtain ⟨c,hc,hv⟩:=Option.bind_eq_some_iff.1 hd
     obtain ⟨v1,v2⟩:=digV_some hv
     exact ⟨by rw[v2]; exact cons_drop hc,v1⟩
   obtain ⟨a,r1,h1,h⟩:=PV.and_eq_ok h
   obtain ⟨b,r2,h2,h⟩:=PV.and_eq_ok h
   obtain ⟨t,r3,h3,h⟩:=PV.and_eq_ok h
   cases h
   obtain ⟨a1,a2⟩:=dg h1
   obtain ⟨b1,b2⟩:=dg h2
   have ih:=hexV_some s m _ _ _ h3
   have hb:(UInt8.ofNat (16 * a+b)).toNat=16 * a+b:=by rw[UInt8.toNat_ofNat']; omega
   rw[List.flatMap_cons,a1,b1,ih]
   unfold byteT
   rw[hb,show (16 * a+b) / 16=a by omega,show (16 * a+b) % 16=b by omega]
   rfl
end Go.Proofs.YtilejcofleeeiaaGreatDoor
