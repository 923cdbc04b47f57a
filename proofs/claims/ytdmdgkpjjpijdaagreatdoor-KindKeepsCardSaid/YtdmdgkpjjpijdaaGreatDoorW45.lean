/- YtdmdgkpjjpijdaaGreatDoor: walks, part 44: a note's text: quoted, the program's. -/
import Derived.Test.YtdmdgkpjjpijdaaGreatDoorW42
namespace Go.Proofs.YtdmdgkpjjpijdaaGreatDoor
open Go Go.K
open Nat renaming reduceEqDiff → qE
open List renaming length_cons → qN, length_append → qA, length_nil → qO, getElem?_eq_getElem → qH
set_option maxRecDepth 100000
set_option linter.unusedVariables false
set_option linter.unusedSimpArgs false
set_option maxHeartbeats 4000000
structure FldmI (w0:World) (M:Own) (l:List Fld) (a:Option Addr) (c k:Nat) (xs:List Value) (i:Nat) (wb:World) (e:Env) (ds:List Deferred) (L:Own):Prop where
 hw:wb=w0
 hds:ds=[]
 o:RowO w0 5 1 L M (e 0) (k+(textM 0 (l.take i)).length) (xs++bytesV (textM 0 (l.take i)))
 il:i≤l.length
 h1:e 1=.slice a l.length c
 h7:e 7=.slice a l.length c
 h8:e 8=i64 l.length
 h9:e 9=i64 i
structure FldmJ (w0:World) (M:Own) (l:List Fld) (a:Option Addr) (c k:Nat) (xs:List Value) (i:Nat) (f:Fld) (fa:Option Addr) (fc b6:Nat) (wb:World) (e:Env) (ds:List Deferred) (L:Own):Prop where
 hw:wb=w0
 hds:ds=[]
 o:∃ L2,(∀ w,Sy w0 L w→Sy w0 L2 w)∧RowO w0 5 1 L2 ((qb0 b6 f fa fc)::M) (e 0) (k+(textM 0 (l.take i)).length+(sepT i).length) (xs++bytesV (textM 0 (l.take i))++bytesV (sepT i))
 m:(qb0 b6 f fa fc)∈L
 h1:e 1=.slice a l.length c
 h6:e 6=.pointer (some ⟨b6,0,none⟩)
 h7:e 7=.slice a l.length c
 h8:e 8=i64 l.length
 h9:e 9=i64 i
theorem fieldsG_step (n:Nat) (hT:TypedG n):FieldsG (n+1):=by
 intro wb w L M lo v k xs l a c hw hs hlo hM hro hr hc hc2 he hsz hlen
 refine enterB (args:=[v,.slice a l.length c]) Tryz.func57 rfl Tryz.ntmps57 (congrArg Array.toList Tryz.results57) (by kernel_rfl) (by simp) hw ?_
 refine sp ?_
 repeat' (first|((first|((first|refine gT rfl ?_ ?_|refine gF rfl ?_ ?_|refine cdD ?_ ?_)<;>intro h)|((first|refine gbT rfl ?_ ?_|refine gbF rfl ?_ ?_|refine cdB ?_ ?_)<;>intro h<;>(try subst h))|refine lOa Shp.eq rfl ?_|refine lAa Shp.eq rfl rfl ?_|refine newI (fun b hb hn=>?_)|refine sXb Siz.eq rfl rfl ?_)<;>simp (disch:=omega) only[push_cast,qE]))
 rw[Vb]
 refine sp ?_
 refine loopW (G:=Nat) (FldmI wb M l a c k xs) (fun i=>l.length - i) 0 L (fun w hw=>hw) (by kernel_rfl) ⟨rfl,rfl,hro.cast (by simp[textM]) (by simp[textM,bytesV]),by omega,rfl,rfl,rfl,rfl⟩ ?_
 clear hw hro
 rintro i wb e ds L ⟨rfl,rfl,hro,hil,h1,h7,h8,h9⟩
 obtain ⟨v0,h0⟩:∃ v0,e 0=v0:=⟨_,rfl⟩
 rw[h0] at hro
 simp (disch:=omega) only[push_cast,qE,h0,h1,h7,h8,h9]
 rw[Vc]
 simp (disch:=omega) only[push_cast,qE,h0,h1,h7,h8,h9]
 have hLn:=hro.new hM
 refine cdD (fun hlt=>?_) (fun hge=>?_)
 ·obtain ⟨f,hf⟩:∃ f,l[i]?=some f:=⟨_,qH (by omega)⟩
  have htake:textM 0 (l.take (i+1))=textM 0 (l.take i)++(sepT i++(f.nm++([32]++(textG f++if f.nl then [63] else [])))):=textM_take l i f hf
  have hle:=textM_le l (i+1)
  rw[htake] at hle
  simp only[qA,qN,qO] at hle
  have hef:=okM_get he hf
  have hszf:SizeOf.sizeOf f < n:=by
   have:=List.sizeOf_lt_of_mem (List.mem_of_getElem? hf)
   omega
  obtain ⟨b,off,rfl,hb⟩:∃ b off,a=some ⟨b,off,none⟩∧b < lo:=by
   obtain ⟨f0,l0,rfl⟩:∃ f l',l=f::l':=List.exists_cons_of_ne_nil (by rintro rfl; simp at hf)
   exact hr.some_of
  obtain ⟨fa,fc,x1,x2,x3,x4,x5,x6⟩:=hr.get i hf
  simp (disch:=omega) only[push_cast,qE,h0,h1,h7,h8,h9]
  rw[Vb]
  simp (disch:=omega) only[push_cast,qE,h0,h1,h7,h8,h9]
  refine ldAggF sh_37 x2 rfl (out_of (fun p hp=>Nat.lt_of_lt_of_le (Nat.lt_of_lt_of_le x1 hlo) (hLn p hp))) ?_
  simp (disch:=omega) only[push_cast,qE,h0,h1,h7,h8,h9,Fld.cells]
  refine newI (fun b6 hb6 hn6=>?_)
  simp (disch:=omega) only[push_cast,qE,h0,h1,h7,h8,h9]
  repeat' (first|((first|((first|refine gT rfl ?_ ?_|refine gF rfl ?_ ?_|refine cdD ?_ ?_)<;>intro h)|((first|refine gbT rfl ?_ ?_|refine gbF rfl ?_ ?_|refine cdB ?_ ?_)<;>intro h<;>(try subst h))|refine lOa Shp.eq rfl ?_|refine lAa Shp.eq rfl rfl ?_|refine newI (fun b hb hn=>?_)|refine sXb Siz.eq rfl rfl ?_)<;>simp (disch:=omega) only[push_cast,qE,h0,h1,h7,h8,h9]))
  obtain ⟨L1,hro1,hs1⟩:=hro.over (qb0 b6 f fa fc)
  refine cutV (FldmJ wb M l (some ⟨b,off,none⟩) c k xs i f fa fc b6) ?_ ?_
  ·rw[Vc]
   simp (disch:=omega) only[push_cast,qE,h0,h1,h7,h8,h9]
   refine cdD (fun hi0=>?_) (fun hi0=>?_)
   ·simp (disch:=omega) only[push_cast,qE,h0,h1,h7,h8,h9]
    have hsep:sepT i=[44,32]:=by unfold sepT; rw[if_neg (by omega)]
    rw[hsep] at hle
    simp only[qN,qO] at hle
    refine valX_weak hs1 (appendS [44,32] un_108 Tryz.underlying9 infoU8 hro1 (by simp only[qN,qO]; omega) (fun v2 L2 hro2=>?_))
    simp (disch:=omega) only[push_cast,qE,h0,h1,h7,h8,h9]
    exact ⟨rfl,rfl,⟨L2,fun w hw=>hw,hro2.cast (by rw[hsep]) (by rw[hsep])⟩,hro2.mem (.head _),h1,rfl,h7,h8,h9⟩
   ·simp (disch:=omega) only[push_cast,qE,h0,h1,h7,h8,h9]
    have hsep:sepT i=[]:=by unfold sepT; rw[if_pos (by omega)]
    exact ⟨rfl,rfl,⟨L1,hs1,by have h:=hro1.cast (n':=k+(textM 0 (l.take i)).length+(sepT i).length) (xs':=xs++bytesV (textM 0 (l.take i))++bytesV (sepT i)) (by rw[hsep]; rfl) (by rw[hsep]; simp[bytesV]); rw[← h0] at h; exact h⟩,.head _,h1,rfl,h7,h8,h9⟩
  ·rintro wb e ds L ⟨rfl,rfl,⟨L2,hs2,hro2⟩,hm6,h1,h6,h7,h8,h9⟩
   obtain ⟨v0,h0⟩:∃ v0,e 0=v0:=⟨_,rfl⟩
   rw[h0] at hro2
   simp (disch:=omega) only[push_cast,qE,h0,h1,h6,h7,h8,h9]
   refine lOn sh_9 hm6 rfl ?_
   simp (disch:=omega) only[push_cast,qE,h0,h1,h6,h7,h8,h9]
   refine valX_weak hs2 (appendS f.nm un_108 Tryz.underlying9 infoU8 hro2 (by omega) (fun v3 L3 hro3=>?_))
   simp (disch:=omega) only[push_cast,qE,h0,h1,h6,h7,h8,h9]
   refine bs_108_1 (newI fun b7 hb7 hn7=>?_)
   simp (disch:=omega) only[push_cast,qE,h0,h1,h6,h7,h8,h9]
   refine appendB [32] un_108 infoU8 hro3 hb7 (by simp only[qN,qO]; omega) (fun v4 L4 hro4=>?_)
   simp (disch:=omega) only[push_cast,qE,h0,h1,h6,h7,h8,h9]
   refine lAg sh_35 (hro4.mem (.tail _ (.head _))) rfl rfl ?_
   simp (disch:=omega) only[push_cast,qE,h0,h1,h6,h7,h8,h9]
   have hM7:∀ p∈((b7,Obj.cells (bytesV [32]).toArray 5 (0,0))::(qb0 b6 f fa fc)::M),wb.heap.size≤p.1:=fun p hp=>by
    simp only[List.mem_cons] at hp
    rcases hp with rfl|rfl|hp
    ·exact hb7
    ·exact hb6
    ·exact hM p hp
   refine callV en_90 (callX_own (fun w' hw'=>hT wb w' _ _ lo v4 _ _ f fa fc hw' hs hlo hM7 hro4 x6 x3 x5 hef hszf (by simp only[qN,qO]; omega)) (fun v5 L5 hro5=>?_))
   simp (disch:=omega) only[push_cast,qE,h0,h1,h6,h7,h8,h9]
   refine lOn sh_4 (hro5.mem (.tail _ (.head _))) rfl ?_
   simp (disch:=omega) only[push_cast,qE,h0,h1,h6,h7,h8,h9]
   rw[Vc]
   simp (disch:=omega) only[push_cast,qE,h0,h1,h6,h7,h8,h9]
   obtain ⟨L6,hro6,hs6⟩:=RowO.shrink [(b7,Obj.cells (bytesV [32]).toArray 5 (0,0)),(qb0 b6 f fa fc)] hro5 (fun p hp=>by
    simp only[List.mem_cons,List.mem_nil_iff,or_false] at hp
    rcases hp with rfl|rfl<;>assumption)
   refine cdB (fun hnl=>?_) (fun hnl=>?_)
   ·simp (disch:=omega) only[push_cast,qE,h0,h1,h6,h7,h8,h9]
    refine bs_108_1 (newI fun b8 hb8 hn8=>?_)
    simp (disch:=omega) only[push_cast,qE,h0,h1,h6,h7,h8,h9]
    rw[hnl] at hle
    simp only[if_true,qN,qO] at hle
    refine appendB [63] un_108 infoU8 hro5 hb8 (by simp only[qN,qO]; omega) (fun v6 L7 hro7=>?_)
    simp (disch:=omega) only[push_cast,qE,h0,h1,h6,h7,h8,h9]
    obtain ⟨L8,hro8,hs8⟩:=RowO.shrink [(b8,Obj.cells (bytesV [63]).toArray 5 (0,0)),(b7,Obj.cells (bytesV [32]).toArray 5 (0,0)),(qb0 b6 f fa fc)] hro7 (fun p hp=>by
     simp only[List.mem_cons,List.mem_nil_iff,or_false] at hp
     rcases hp with rfl|rfl|rfl<;>assumption)
    refine ⟨i+1,L8,hs8,⟨rfl,rfl,hro8.cast ?_ ?_,by omega,h1,h7,h8,uu⟩,by omega⟩
    ·rw[htake,hnl]; simp only[if_true,qA,qN,qO]; omega
    ·rw[htake,hnl]; simp only[if_true,bytesV_append,List.append_assoc]
   ·simp (disch:=omega) only[push_cast,qE,h0,h1,h6,h7,h8,h9]
    refine ⟨i+1,L6,hs6,⟨rfl,rfl,hro6.cast ?_ ?_,by omega,h1,h7,h8,uu⟩,by omega⟩
    ·rw[htake,hnl]; simp only[Bool.false_eq_true,if_false,List.append_nil,qA,qN,qO]; omega
    ·rw[htake,hnl]; simp only[Bool.false_eq_true,if_false,List.append_nil,bytesV_append,List.append_assoc]
 ·obtain rfl:i=l.length:=by omega
  simp (disch:=omega) only[push_cast,qE,h0,h1,h7,h8,h9]
  rw[List.take_length] at hro
  exact fun w' hw'=>⟨_,L,rfl,hw',hro⟩
theorem textsG_ok:∀ n,FieldsG n∧TypedG n
 | 0=>⟨fun wb w L M lo v k xs l a c _ _ _ _ _ _ _ _ _ h=>by omega,fun wb w L M lo v k xs f a c _ _ _ _ _ _ _ _ _ h=>by omega⟩
 | n+1=>⟨fieldsG_step n (textsG_ok n).2,typedG_step n (textsG_ok n).1⟩
def hexL:List UInt8:=[48,49,50,51,52,53,54,55,56,57,97,98,99,100,101,102]
def hexB (n:Nat):UInt8:=hexL.getD n 0
def escB (c:UInt8):List UInt8:=if c=34∨c=92 then [92,c] else if 32≤c.toNat∧c.toNat≤126 then [c] else [92,120,hexB (c.toNat / 16),hexB (c.toNat % 16)]
def escL (s:List UInt8):List UInt8:=s.flatMap escB
def quoteP (s:List UInt8):List UInt8:=[34]++(escL s++[34])
theorem escB_le (c:UInt8):(escB c).length≤4:=by unfold escB; split<;>(try split)<;>simp
theorem escL_le:∀ s:List UInt8,(escL s).length≤4 * s.length
 | []=>by simp[escL]
 | c::s=>by
  have h1:=escB_le c
  have h2:=escL_le s
  simp only[escL,List.flatMap_cons,qA,qN] at h2 ⊢
  omega
theorem escL_take (s:List UInt8) (i:Nat) (c:UInt8) (hc:s[i]?=some c):escL (s.take (i+1))=escL (s.take i)++escB c:=by
 unfold escL
 rw[List.take_add_one,hc,Option.toList_some,List.flatMap_append]
 simp
theorem escL_len (s:List UInt8) (i:Nat):(escL (s.take i)).length≤4 * s.length:=by
 have h1:=escL_le (s.take i)
 have h2:(s.take i).length≤s.length:=List.length_take_le' ..
 omega
structure QuI (w0:World) (M:Own) (s:List UInt8) (k:Nat) (xs:List Value) (i:Nat) (wb:World) (e:Env) (ds:List Deferred) (L:Own):Prop where
 hw:wb=w0
 hds:ds=[]
 o:RowO w0 5 1 L M (e 0) (k+1+(escL (s.take i)).length) (xs++bytesV [34]++bytesV (escL (s.take i)))
 il:i≤s.length
 h1:e 1=str s
 h11:e 11=i64 s.length
 h12:e 12=i64 i
theorem quoted_walk (wb w:World) (L M:Own) (v:Value) (k:Nat) (xs:List Value) (s:List UInt8) (hw:Sy wb L w) (hM:∀ p∈M,wb.heap.size≤p.1) (hro:RowO wb 5 1 L M v k xs) (hk:k+4 * s.length+2≤70368744177664) :
 Calls Tryz.prog 58 #[v,str s] w (fun e w'=>∃ v' L',e=.returned v'∧Sy wb L' w'∧RowO wb 5 1 L' M v' (k+(quoteP s).length) (xs++bytesV (quoteP s))):=by
 refine enterB (args:=[v,str s]) Tryz.func58 rfl Tryz.ntmps58 (congrArg Array.toList Tryz.results58) (by kernel_rfl) (by simp) hw ?_
 refine sp ?_
 refine bs_108_1 (newI fun b8 hb8 hn8=>?_)
 refine sp ?_
 refine appendB [34] un_108 infoU8 hro hb8 (by simp only[qN,qO]; omega) (fun v2 L2 hro2=>?_)
 refine sp ?_
 repeat' (first|((first|((first|refine gT rfl ?_ ?_|refine gF rfl ?_ ?_|refine cdD ?_ ?_)<;>intro h)|((first|refine gbT rfl ?_ ?_|refine gbF rfl ?_ ?_|refine cdB ?_ ?_)<;>intro h<;>(try subst h))|refine lOa Shp.eq rfl ?_|refine lAa Shp.eq rfl rfl ?_|refine newI (fun b hb hn=>?_)|refine sXb Siz.eq rfl rfl ?_)<;>simp (disch:=omega) only[push_cast,qE]))
 rw[Vb]
 refine sp ?_
 obtain ⟨L3,hro3,hs3⟩:=RowO.shrink [_] hro2 (fun p hp=>by rw[List.mem_singleton.1 hp]; exact hb8)
 refine loopW (G:=Nat) (QuI wb M s k xs) (fun i=>s.length - i) 0 L3 hs3 (by kernel_rfl) ⟨rfl,rfl,hro3.cast rfl (by simp[escL,bytesV]),by omega,rfl,rfl,rfl⟩ ?_
 clear hw hro hro2 hro3 hs3
 rintro i wb e ds L ⟨rfl,rfl,hro,hil,h1,h11,h12⟩
 obtain ⟨v0,h0⟩:∃ v0,e 0=v0:=⟨_,rfl⟩
 rw[h0] at hro
 simp (disch:=omega) only[push_cast,qE,h0,h1,h11,h12]
 rw[Vc]
 simp (disch:=omega) only[push_cast,qE,h0,h1,h11,h12]
 refine cdD (fun hlt=>?_) (fun hge=>?_)
 ·obtain ⟨c,hc⟩:∃ c,s[i]?=some c:=⟨_,qH (by omega)⟩
  have hgd:s.getD i 0=c:=by rw[List.getD_eq_getElem?_getD,hc]; rfl
  simp (disch:=omega) only[push_cast,qE,h0,h1,h11,h12]
  rw[Vb]
  simp (disch:=omega) only[push_cast,qE,h0,h1,h11,h12,hgd]
  have htk:=escL_take s i c hc
  have hel:=escL_len s i
  have hc256:c.toNat < 256:=UInt8.toNat_lt c
  rw[Vb]
  simp (disch:=omega) only[push_cast,qE,h0,h1,h11,h12]
  refine gF rfl (fun h34=>?_) (fun h34=>?_)
  rotate_left
  ·have hesc:escB c=[92,c]:=by unfold escB; rw[if_pos (.inl (UInt8.toNat_inj.1 (show c.toNat=34 by omega)))]
   simp (disch:=omega) only[push_cast,qE,h0,h1,h11,h12]
   rw[Vc]
   simp (disch:=omega) only[push_cast,qE,h0,h1,h11,h12]
   refine bs_108_2 (newI fun b9 hb9 hn9=>?_)
   simp (disch:=omega) only[push_cast,qE,h0,h1,h11,h12]
   refine appendB [92,c] un_108 infoU8 hro hb9 (by simp only[qN,qO]; omega) (fun v5 L5 hro5=>?_)
   simp (disch:=omega) only[push_cast,qE,h0,h1,h11,h12]
   obtain ⟨L6,hro6,hs6⟩:=RowO.shrink [_] hro5 (fun p hp=>by rw[List.mem_singleton.1 hp]; exact hb9)
   exact ⟨i+1,L6,hs6,⟨rfl,rfl,hro6.cast (by rw[htk,hesc]; simp only[qA,qN,qO]; omega) (by rw[htk,hesc]; simp only[bytesV_append,List.append_assoc]),by omega,h1,h11,uu⟩,by omega⟩
  simp (disch:=omega) only[push_cast,qE,h0,h1,h11,h12]
  rw[Vc]
  simp (disch:=omega) only[push_cast,qE,h0,h1,h11,h12]
  refine cdD (fun h92=>?_) (fun h92=>?_)
  ·have hesc:escB c=[92,c]:=by unfold escB; rw[if_pos (.inr (UInt8.toNat_inj.1 (show c.toNat=92 by omega)))]
   simp (disch:=omega) only[push_cast,qE,h0,h1,h11,h12]
   refine bs_108_2 (newI fun b9 hb9 hn9=>?_)
   simp (disch:=omega) only[push_cast,qE,h0,h1,h11,h12]
   refine appendB [92,c] un_108 infoU8 hro hb9 (by simp only[qN,qO]; omega) (fun v5 L5 hro5=>?_)
   simp (disch:=omega) only[push_cast,qE,h0,h1,h11,h12]
   obtain ⟨L6,hro6,hs6⟩:=RowO.shrink [_] hro5 (fun p hp=>by rw[List.mem_singleton.1 hp]; exact hb9)
   exact ⟨i+1,L6,hs6,⟨rfl,rfl,hro6.cast (by rw[htk,hesc]; simp only[qA,qN,qO]; omega) (by rw[htk,hesc]; simp only[bytesV_append,List.append_assoc]),by omega,h1,h11,uu⟩,by omega⟩
  have hn34:¬ (c=34∨c=92):=fun h=>by
   rcases h with rfl|rfl
   ·exact h34 rfl
   ·exact h92 rfl
  simp (disch:=omega) only[push_cast,qE,h0,h1,h11,h12]
  refine gT rfl (fun h32=>?_) (fun h32=>?_)
  ·simp (disch:=omega) only[push_cast,qE,h0,h1,h11,h12]
   rw[Vc]
   simp (disch:=omega) only[push_cast,qE,h0,h1,h11,h12]
   refine cdD (fun h126=>?_) (fun h126=>?_)
   ·have hesc:escB c=[c]:=by unfold escB; rw[if_neg hn34,if_pos ⟨by omega,by omega⟩]
    simp (disch:=omega) only[push_cast,qE,h0,h1,h11,h12]
    refine bs_108_1 (newI fun b9 hb9 hn9=>?_)
    simp (disch:=omega) only[push_cast,qE,h0,h1,h11,h12]
    refine appendB [c] un_108 infoU8 hro hb9 (by simp only[qN,qO]; omega) (fun v5 L5 hro5=>?_)
    simp (disch:=omega) only[push_cast,qE,h0,h1,h11,h12]
    obtain ⟨L6,hro6,hs6⟩:=RowO.shrink [_] hro5 (fun p hp=>by rw[List.mem_singleton.1 hp]; exact hb9)
    exact ⟨i+1,L6,hs6,⟨rfl,rfl,hro6.cast (by rw[htk,hesc]; simp only[qA,qN,qO]; omega) (by rw[htk,hesc]; simp only[bytesV_append,List.append_assoc]),by omega,h1,h11,uu⟩,by omega⟩
   ·have hesc:escB c=[92,120,hexB (c.toNat / 16),hexB (c.toNat % 16)]:=by unfold escB; rw[if_neg hn34,if_neg (by omega)]
    simp (disch:=omega) only[push_cast,qE,h0,h1,h11,h12]
    refine freeT [0,1,2,3,4,5,6] [7,8,9] [] (by kernel_rfl) mixed (by kernel_rfl) (Stab.of (List.nil_sublist _) (hro.new hM)) ?_
    simp (disch:=omega) only[push_cast,qE,h0,h1,h11,h12]
    refine Eq.mpr (is_9 hexL .u8 _ (by omega) (show ((c.toNat:Int) / 16) < 16 by omega)) ?_
    simp (disch:=omega) only[push_cast,qE,h0,h1,h11,h12]
    refine Eq.mpr (is_9 hexL .u8 _ (by omega) (show ((c.toNat:Int) % 16) < 16 by omega)) ?_
    simp (disch:=omega) only[push_cast,qE,h0,h1,h11,h12]
    rw[show ((c.toNat:Int) / 16).toNat=c.toNat / 16 by omega,show ((c.toNat:Int) % 16).toNat=c.toNat % 16 by omega]
    refine bs4 (newI fun b9 hb9 hn9=>?_)
    simp (disch:=omega) only[push_cast,qE,h0,h1,h11,h12]
    have hM9:∀ x:Obj,∀ p∈((b9,x)::M),wb.heap.size≤p.1:=fun x p hp=>by
     rcases List.mem_cons.1 hp with rfl|hp
     ·exact hb9
     ·exact hM p hp
    refine ⟨Stab.of (List.nil_sublist _) ((nC hb9 (hro.new hM))),appendB [92,120,hexB (c.toNat / 16),hexB (c.toNat % 16)] un_108 infoU8 hro hb9 (by simp only[qN,qO]; omega) (fun v5 L5 hro5=>?_)⟩
    simp (disch:=omega) only[push_cast,qE,h0,h1,h11,h12]
    obtain ⟨L6,hro6,hs6⟩:=RowO.shrink [_] hro5 (fun p hp=>by rw[List.mem_singleton.1 hp]; exact hb9)
    exact ⟨Stab.of (List.nil_sublist _) (hro5.new (hM9 _)),Stab.of (List.nil_sublist _) (hro5.new (hM9 _)),i+1,L6,hs6,⟨rfl,rfl,hro6.cast (by rw[htk,hesc]; simp only[qA,qN,qO]; omega) (by rw[htk,hesc]; simp only[bytesV_append,List.append_assoc]),by omega,h1,h11,uu⟩,by omega⟩
  ·simp (disch:=omega) only[push_cast,qE,h0,h1,h11,h12]
   rw[Vc]
   have hesc:escB c=[92,120,hexB (c.toNat / 16),hexB (c.toNat % 16)]:=by unfold escB; rw[if_neg hn34,if_neg (by omega)]
   simp (disch:=omega) only[push_cast,qE,h0,h1,h11,h12]
   refine freeT [0,1,2,3,4,5,6] [7,8,9] [] (by kernel_rfl) mixed (by kernel_rfl) (Stab.of (List.nil_sublist _) (hro.new hM)) ?_
   simp (disch:=omega) only[push_cast,qE,h0,h1,h11,h12]
   refine Eq.mpr (is_9 hexL .u8 _ (by omega) (show ((c.toNat:Int) / 16) < 16 by omega)) ?_
   simp (disch:=omega) only[push_cast,qE,h0,h1,h11,h12]
   refine Eq.mpr (is_9 hexL .u8 _ (by omega) (show ((c.toNat:Int) % 16) < 16 by omega)) ?_
   simp (disch:=omega) only[push_cast,qE,h0,h1,h11,h12]
   rw[show ((c.toNat:Int) / 16).toNat=c.toNat / 16 by omega,show ((c.toNat:Int) % 16).toNat=c.toNat % 16 by omega]
   refine bs4 (newI fun b9 hb9 hn9=>?_)
   simp (disch:=omega) only[push_cast,qE,h0,h1,h11,h12]
   have hM9:∀ x:Obj,∀ p∈((b9,x)::M),wb.heap.size≤p.1:=fun x p hp=>by
    rcases List.mem_cons.1 hp with rfl|hp
    ·exact hb9
    ·exact hM p hp
   refine ⟨Stab.of (List.nil_sublist _) ((nC hb9 (hro.new hM))),appendB [92,120,hexB (c.toNat / 16),hexB (c.toNat % 16)] un_108 infoU8 hro hb9 (by simp only[qN,qO]; omega) (fun v5 L5 hro5=>?_)⟩
   simp (disch:=omega) only[push_cast,qE,h0,h1,h11,h12]
   obtain ⟨L6,hro6,hs6⟩:=RowO.shrink [_] hro5 (fun p hp=>by rw[List.mem_singleton.1 hp]; exact hb9)
   exact ⟨Stab.of (List.nil_sublist _) (hro5.new (hM9 _)),Stab.of (List.nil_sublist _) (hro5.new (hM9 _)),i+1,L6,hs6,⟨rfl,rfl,hro6.cast (by rw[htk,hesc]; simp only[qA,qN,qO]; omega) (by rw[htk,hesc]; simp only[bytesV_append,List.append_assoc]),by omega,h1,h11,uu⟩,by omega⟩
 ·obtain rfl:i=s.length:=by omega
  simp (disch:=omega) only[push_cast,qE,h0,h1,h11,h12]
  refine bs_108_1 (newI fun b9 hb9 hn9=>?_)
  simp (disch:=omega) only[push_cast,qE,h0,h1,h11,h12]
  have hel:=escL_len s s.length
  refine appendB [34] un_108 infoU8 hro hb9 (by simp only[qN,qO]; omega) (fun v5 L5 hro5=>?_)
  simp (disch:=omega) only[push_cast,qE,h0,h1,h11,h12]
  obtain ⟨L6,hro6,hs6⟩:=RowO.shrink [_] hro5 (fun p hp=>by rw[List.mem_singleton.1 hp]; exact hb9)
  rw[List.take_length] at hro6
  exact fun w' hw'=>⟨_,L6,rfl,hs6 _ hw',hro6.cast (by unfold quoteP; simp only[qA,qN,qO]; omega) (by unfold quoteP; simp only[bytesV_append,List.append_assoc])⟩
end Go.Proofs.YtdmdgkpjjpijdaaGreatDoor
