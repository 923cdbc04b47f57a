/- YtdmdgkpjjpijdaaGreatDoor: walks, part 185: the reference's: blanks, hex digits, quoted texts as tokens. -/
import Derived.Test.YtdmdgkpjjpijdaaGreatDoorW167
namespace Go.Proofs.YtdmdgkpjjpijdaaGreatDoor
open Go Go.K
open Nat renaming reduceEqDiff → qE
open List renaming length_cons → qN, length_append → qA, length_nil → qO, getElem?_eq_getElem → qH
set_option maxRecDepth 100000
set_option linter.unusedVariables false
set_option linter.unusedSimpArgs false
set_option maxHeartbeats 16000000
theorem blankR_walk (w:World) (c:UInt8):Calls Tryz.prog 104 #[.int .u8 c.toNat] w (Rets w (Is (.bool (blankB c)))):=by
 have hb:blankB c=decide ((c.toNat:Int)=32∨(c.toNat:Int)=9∨(c.toNat:Int)=10):=by
  unfold blankB
  refine decide_eq_decide.2 ?_
  rw[show ((c.toNat:Int)=32)=(c=32) from u8_eq (n:=32) (by decide),show ((c.toNat:Int)=9)=(c=9) from u8_eq (n:=9) (by decide),show ((c.toNat:Int)=10)=(c=10) from u8_eq (n:=10) (by decide)]
 rw[hb]
 refine enterT (args:=[.int .u8 c.toNat]) Tryz.func104 rfl Tryz.ntmps104 (congrArg Array.toList Tryz.results104) (by kernel_rfl) (by simp) (Sy.refl w) ?_
 refine sp ?_
 repeat' (first|((first|((first|refine gT rfl ?_ ?_|refine gF rfl ?_ ?_|refine cdD ?_ ?_)<;>intro h)|((first|refine gbT rfl ?_ ?_|refine gbF rfl ?_ ?_|refine cdB ?_ ?_)<;>intro h<;>(try subst h))|refine lOa Shp.eq rfl ?_|refine lAa Shp.eq rfl rfl ?_|refine newI (fun b hb hn=>?_)|refine sXb Siz.eq rfl rfl ?_)<;>simp (disch:=omega) only[push_cast,qE])|(first|rw[Vc]|rw[Vb])<;>(try simp (disch:=omega) only[push_cast,qE]))
 all_goals (refine fun w' hw=>⟨_,rfl,hw,?_⟩; first|exact is_t (by omega)|exact is_f (by omega)|exact is_d (by omega))
def hexI (c:UInt8):Int:=match hexV c with
 | some n=>n
 | none=>-1
structure HexRI (w0:World) (c:UInt8) (k:Nat) (wb:World) (e:Env) (ds:List Deferred) (L:Own):Prop where
 hw:wb=w0
 hds:ds=[]
 o:L=[]
 kl:k≤16
 n:∀ j,j < k→hexD.getD j 0≠c
 h0:e 0=.int .u8 c.toNat
 h3:e 3=i64 k
theorem hexR_walk (w:World) (c:UInt8):Calls Tryz.prog 119 #[.int .u8 c.toNat] w (Rets w (Is (i64 (hexI c)))):=by
 refine enterT (args:=[.int .u8 c.toNat]) Tryz.func119 rfl Tryz.ntmps119 (congrArg Array.toList Tryz.results119) (by kernel_rfl) (by simp) (Sy.refl w) ?_
 refine sp ?_
 rw[Vb]
 refine sp ?_
 refine loopT (G:=Nat) (HexRI w c) (fun k=>16 - k) 0 (by kernel_rfl) ⟨rfl,rfl,rfl,by omega,fun j h=>by omega,rfl,rfl⟩ ?_
 rintro k wb e ds L ⟨rfl,rfl,rfl,hk,hn,h0,h3⟩
 simp (disch:=omega) only[push_cast,qE,h0,h3]
 rw[Vc]
 simp (disch:=omega) only[push_cast,qE,h0,h3]
 refine cdD (fun hlt=>?_) (fun hge=>?_)
 ·simp (disch:=omega) only[push_cast,qE,h0,h3]
  rw[Vb]
  simp (disch:=omega) only[push_cast,qE,h0,h3,Int.toNat_natCast]
  rw[Vc]
  simp (disch:=omega) only[push_cast,qE,h0,h3]
  have hu:(((hexD.getD k 0).toNat:Int)=(c.toNat:Int))↔hexD.getD k 0=c:=⟨fun h=>UInt8.toNat_inj.1 (by omega),fun h=>by rw[h]⟩
  refine cdD (fun hb=>?_) (fun hb=>?_)
  ·have hc:=hu.1 hb
   simp (disch:=omega) only[push_cast,qE,h0,h3]
   refine fun w' hw=>⟨_,rfl,hw,?_⟩
   have hf:hexV c=some k:=by
    show hexD.findIdx? (· == c)=some k
    rw[List.findIdx?_eq_some_iff_getElem]
    have hl:k < hexD.length:=by simp only[hexD,qN,qO]; omega
    refine ⟨hl,?_,fun j hj=>?_⟩
    ·rw[List.getD_eq_getElem?_getD,qH hl] at hc
     simpa using hc
    ·have h1:=hn j hj
     rw[List.getD_eq_getElem?_getD,qH (by omega)] at h1
     simpa using h1
   unfold hexI
   rw[hf]
  ·simp (disch:=omega) only[push_cast,qE,h0,h3]
   refine ⟨k+1,⟨rfl,rfl,rfl,by omega,fun j hj=>?_,h0,uu⟩,by omega⟩
   rcases Nat.lt_or_ge j k with h|h
   ·exact hn j h
   ·obtain rfl:j=k:=by omega
    exact fun hc=>hb (hu.2 hc)
 ·simp (disch:=omega) only[push_cast,qE,h0,h3]
  refine fun w' hw=>⟨_,rfl,hw,?_⟩
  have hf:hexV c=none:=by
   show hexD.findIdx? (· == c)=none
   rw[List.findIdx?_eq_none_iff]
   intro x hx
   obtain ⟨j,hj⟩:=List.mem_iff_getElem?.1 hx
   obtain ⟨hl,rfl⟩:=List.getElem?_eq_some_iff.1 hj
   have hl2:hexD.length=16:=rfl
   have h1:=hn j (by omega)
   rw[List.getD_eq_getElem?_getD,qH hl] at h1
   simpa using h1
  unfold hexI
  rw[hf]
structure Tok where
 k:Nat
 tx:List UInt8
 at_:Nat
 nx:Nat
 ft:Int
abbrev Tok.cells (t:Tok):Array Value:=#[i64 t.k,str t.tx,i64 t.at_,i64 t.nx,i64 t.ft]
def quoP (s:List UInt8) (q:Nat):Tok:=match pRest s (s.length+1) (q+1) with
 | .ok l r=>⟨3,l,q,r,-1⟩
 | .no f=>⟨3,[],q,0,f⟩
abbrev oTk (b:Nat) (k:Int) (t:List UInt8) (a n f:Int):Nat×Obj:=(b,Obj.cells #[i64 k,str t,i64 a,i64 n,i64 f] 84 (0,0))
structure QtRI (w0:World) (s:List UInt8) (q b4 b5:Nat) (t0:PR (List UInt8)) (i:Nat) (wb:World) (e:Env) (ds:List Deferred) (L:Own):Prop where
 hw:wb=w0
 hds:ds=[]
 hi:i≤s.length
 h0:e 0=str s
 h4:e 4=.pointer (some ⟨b4,0,none⟩)
 h5:e 5=.pointer (some ⟨b5,0,none⟩)
 h7:e 7=i64 i
 o:∃ (v:Value) (R:Own) (xs:List UInt8) (m:Nat),e 6=v∧RowO w0 5 1 R [] v xs.length (bytesV xs)∧xs.length≤i∧s.length - i < m∧(t0=(pRest s m i).and fun l r=>.ok (xs++l) r)∧L=oTk b5 3 [] q 0 (-1)::(R++[oTk b4 0 [] 0 0 0])
structure HxqI (w0:World) (s:List UInt8) (q b4 b5:Nat) (v:Value) (R:Own) (i j:Nat) (wb:World) (e:Env) (ds:List Deferred) (L:Own):Prop where
 hw:wb=w0
 hds:ds=[]
 hj:j≤2
 hjl:i+2+j≤s.length
 h0:e 0=str s
 h4:e 4=.pointer (some ⟨b4,0,none⟩)
 h5:e 5=.pointer (some ⟨b5,0,none⟩)
 h6:e 6=v
 h7:e 7=i64 i
 h10:e 10=i64 ((i:Int)+2+j)
 o:∃ X:UInt8,e 9=i64 X.toNat∧((j=0∧X=0)∨(j=1∧hexV (s.getD (i+2) 0)=some X.toNat)∨(j=2∧pEsc s i=.ok X (i+4)))
 hL:L=oTk b5 3 [] q 0 (-1)::(R++[oTk b4 0 [] 0 0 0])
theorem quoteR_walk (w:World) (s:List UInt8) (q:Nat) (hs:s.length≤65536) (hq:q < s.length):Calls Tryz.prog 106 #[str s,i64 q] w (Rets w (Is (.agg (quoP s q).cells))):=by
 refine enterT (args:=[str s,i64 q]) Tryz.func106 rfl Tryz.ntmps106 (congrArg Array.toList Tryz.results106) (by kernel_rfl) (by simp) (Sy.refl w) ?_
 refine sp ?_
 refine newI (fun b4 hb4 hn4=>?_)
 refine sp ?_
 refine newI (fun b5 hb5 hn5=>?_)
 refine sp ?_
 refine sXa 0 rfl Siz.eq rfl rfl ?_
 refine sp ?_
 refine makeEmpty un_108 (size:=1) (by kernel_rfl) (newI fun b6 hb6 hn6=>?_)
 refine sp ?_
 rw[Vb]
 refine sp ?_
 refine loopW (G:=Nat) (QtRI w s q b4 b5 (pRest s (s.length+1) (q+1))) (fun i=>s.length - i) (q+1) (oTk b5 3 [] q 0 (-1)::([(b6,Obj.cells #[] 5 (0,0))]++[oTk b4 0 [] 0 0 0])) (fun w hw=>hw.perm (List.Perm.swap _ _ _)) (by kernel_rfl) ⟨rfl,rfl,by omega,rfl,rfl,rfl,rfl,_,[(b6,Obj.cells #[] 5 (0,0))],[],s.length+1,rfl,⟨rfl,.inr ⟨b6,0,[],rfl,rfl,hb6,Nat.le_refl _,Nat.zero_le _,rfl,rfl⟩⟩,by simp,by omega,by
  cases pRest s (s.length+1) (q+1)<;>rfl,rfl⟩ ?_
 rintro i wb e ds L ⟨rfl,rfl,hi,h0,h4,h5,h7,v,R,xs,m,h6,hR,hxi,hm,ht,rfl⟩
 have hRn:∀ b∈R,wb.heap.size≤b.1:=RowO.new hR (by simp)
 have hLn:∀ (o4 o5:Obj),∀ b∈(b4,o4)::(b5,o5)::R,wb.heap.size≤b.1:=fun o4 o5 b hb=>by
  rcases List.mem_cons.1 hb with rfl|hb
  ·exact hb4
  rcases List.mem_cons.1 hb with rfl|hb
  ·exact hb5
  ·exact hRn b hb
 have hno:∀ f:Nat,pRest s m i=.no f→(Value.agg #[i64 3,str [],i64 q,i64 0,i64 f])=.agg (quoP s q).cells:=fun f hf=>by
  unfold quoP
  rw[ht,hf]
  rfl
 obtain ⟨m,rfl⟩:∃ k,m=k+1:=⟨m - 1,by omega⟩
 simp (disch:=omega) only[push_cast,qE,h0,h4,h5,h6,h7]
 rw[Vc]
 simp (disch:=omega) only[push_cast,qE,h0,h4,h5,h6,h7]
 refine cdD (fun hlt=>?_) (fun hge=>?_)
 rotate_left
 ·simp (disch:=omega) only[push_cast,qE,h0,h4,h5,h6,h7]
  refine sXa 0 rfl Siz.eq rfl rfl ?_
  simp (disch:=omega) only[push_cast,qE,h0,h4,h5,h6,h7]
  refine lAg Shp.eq mem0 rfl rfl ?_
  simp (disch:=omega) only[push_cast,qE,h0,h4,h5,h6,h7]
  refine storeX_weak (L':=oTk b4 0 [] 0 0 0::oTk b5 3 [] q 0 s.length::R) (fun w hw=>hw.perm (permC (fun f=>by simp only[wt_append,wt_cons,wt_nil]; omega):List.Perm (oTk b5 3 [] q 0 s.length::(R++[oTk b4 0 [] 0 0 0])) (oTk b4 0 [] 0 0 0::oTk b5 3 [] q 0 s.length::R))) (sXa 0 rfl Siz.eq rfl rfl ?_)
  simp (disch:=omega) only[push_cast,qE,h0,h4,h5,h6,h7]
  refine lAg Shp.eq mem0 rfl rfl ?_
  simp (disch:=omega) only[push_cast,qE,h0,h4,h5,h6,h7]
  exact finIs (hLn _ _) (hno s.length (by rw[pRest,List.getElem?_eq_none (by omega)]))
 have hat:=getD_at (s:=s) (i:=i) (by omega)
 have q34:(((s.getD i 0).toNat:Int)=34)=(s.getD i 0=34):=u8_eq (by decide)
 have q92:(((s.getD i 0).toNat:Int)=92)=(s.getD i 0=92):=u8_eq (by decide)
 simp (disch:=omega) only[push_cast,qE,h0,h4,h5,h6,h7]
 rw[Vb]
 simp (disch:=omega) only[push_cast,qE,h0,h4,h5,h6,h7,Int.toNat_natCast]
 rw[Vc]
 simp (disch:=omega) only[push_cast,qE,h0,h4,h5,h6,h7]
 refine cdD (fun hc=>?_) (fun hc=>?_)
 ·have c34:s.getD i 0=34:=by rw[← q34]; exact hc
  simp (disch:=omega) only[push_cast,qE,h0,h4,h5,h6,h7]
  refine convX_weak (L':=R++[oTk b5 3 [] q 0 (-1),oTk b4 0 [] 0 0 0]) hR (fun w hw=>hw.perm (pC)) (convS un_108 Tryz.underlying5 Tryz.underlying9 (RowO.frame hR) ?_)
  simp (disch:=omega) only[push_cast,qE,h0,h4,h5,h6,h7]
  refine storeX_weak (L':=oTk b5 3 [] q 0 (-1)::oTk b4 0 [] 0 0 0::R) (fun w hw=>hw.perm (pC)) (sXa 0 rfl Siz.eq rfl rfl ?_)
  simp (disch:=omega) only[push_cast,qE,h0,h4,h5,h6,h7]
  refine sXa 0 rfl Siz.eq rfl rfl ?_
  simp (disch:=omega) only[push_cast,qE,h0,h4,h5,h6,h7]
  refine lAg Shp.eq mem0 rfl rfl ?_
  simp (disch:=omega) only[push_cast,qE,h0,h4,h5,h6,h7]
  refine sXa 1 rfl Siz.eq rfl rfl ?_
  simp (disch:=omega) only[push_cast,qE,h0,h4,h5,h6,h7]
  refine lAg Shp.eq mem1 rfl rfl ?_
  simp (disch:=omega) only[push_cast,qE,h0,h4,h5,h6,h7]
  refine finIs (fun b hb=>?_) ?_
  ·rcases List.mem_cons.1 hb with rfl|hb
   ·exact hb5
   rcases List.mem_cons.1 hb with rfl|hb
   ·exact hb4
   ·exact hRn b hb
  ·unfold quoP
   rw[ht,pRest,hat]
   simp only
   rw[if_pos c34]
   simp[PR.and]
 have n34:¬ s.getD i 0=34:=by rw[← q34]; exact hc
 simp (disch:=omega) only[push_cast,qE,h0,h4,h5,h6,h7]
 refine gF rfl (fun h32=>?_) (fun h32=>?_)
 rotate_left
 ·simp (disch:=omega) only[push_cast,qE,h0,h4,h5,h6,h7]
  rw[Vc]
  simp (disch:=omega) only[push_cast,qE,h0,h4,h5,h6,h7]
  refine sXa 0 rfl Siz.eq rfl rfl ?_
  simp (disch:=omega) only[push_cast,qE,h0,h4,h5,h6,h7]
  refine lAg Shp.eq mem0 rfl rfl ?_
  simp (disch:=omega) only[push_cast,qE,h0,h4,h5,h6,h7]
  refine storeX_weak (L':=oTk b4 0 [] 0 0 0::oTk b5 3 [] q 0 i::R) (fun w hw=>hw.perm (permC (fun f=>by simp only[wt_append,wt_cons,wt_nil]; omega):List.Perm (oTk b5 3 [] q 0 i::(R++[oTk b4 0 [] 0 0 0])) (oTk b4 0 [] 0 0 0::oTk b5 3 [] q 0 i::R))) (sXa 0 rfl Siz.eq rfl rfl ?_)
  simp (disch:=omega) only[push_cast,qE,h0,h4,h5,h6,h7]
  refine lAg Shp.eq mem0 rfl rfl ?_
  simp (disch:=omega) only[push_cast,qE,h0,h4,h5,h6,h7]
  exact finIs (hLn _ _) (hno i (by rw[pRest,hat]; simp only; rw[if_neg n34,if_neg (fun h=>by rw[h] at h32; revert h32; decide),if_neg (by omega)]))
 simp (disch:=omega) only[push_cast,qE,h0,h4,h5,h6,h7]
 rw[Vc]
 simp (disch:=omega) only[push_cast,qE,h0,h4,h5,h6,h7]
 refine cdD (fun h126=>?_) (fun h126=>?_)
 ·simp (disch:=omega) only[push_cast,qE,h0,h4,h5,h6,h7]
  refine sXa 0 rfl Siz.eq rfl rfl ?_
  simp (disch:=omega) only[push_cast,qE,h0,h4,h5,h6,h7]
  refine lAg Shp.eq mem0 rfl rfl ?_
  simp (disch:=omega) only[push_cast,qE,h0,h4,h5,h6,h7]
  refine storeX_weak (L':=oTk b4 0 [] 0 0 0::oTk b5 3 [] q 0 i::R) (fun w hw=>hw.perm (permC (fun f=>by simp only[wt_append,wt_cons,wt_nil]; omega):List.Perm (oTk b5 3 [] q 0 i::(R++[oTk b4 0 [] 0 0 0])) (oTk b4 0 [] 0 0 0::oTk b5 3 [] q 0 i::R))) (sXa 0 rfl Siz.eq rfl rfl ?_)
  simp (disch:=omega) only[push_cast,qE,h0,h4,h5,h6,h7]
  refine lAg Shp.eq mem0 rfl rfl ?_
  simp (disch:=omega) only[push_cast,qE,h0,h4,h5,h6,h7]
  exact finIs (hLn _ _) (hno i (by rw[pRest,hat]; simp only; rw[if_neg n34,if_neg (fun h=>by rw[h] at h126; revert h126; decide),if_neg (by omega)]))
 simp (disch:=omega) only[push_cast,qE,h0,h4,h5,h6,h7]
 rw[Vc]
 simp (disch:=omega) only[push_cast,qE,h0,h4,h5,h6,h7]
 refine cdD (fun hc2=>?_) (fun hc2=>?_)
 ·have n92:¬ s.getD i 0=92:=by rw[← q92]; exact hc2
  simp (disch:=omega) only[push_cast,qE,h0,h4,h5,h6,h7]
  refine bs_108_1 (newI fun b9 hb9 hn9=>?_)
  simp (disch:=omega) only[push_cast,qE,h0,h4,h5,h6,h7]
  refine valX_weak (L':=(b9,Obj.cells (bytesV [s.getD i 0]).toArray 5 (0,0))::(R++[oTk b5 3 [] q 0 (-1),oTk b4 0 [] 0 0 0])) (fun w hw=>hw.perm (permC (fun f=>by simp only[wt_append,wt_cons,wt_nil]; omega):List.Perm ((b9,Obj.cells (bytesV [s.getD i 0]).toArray 5 (0,0))::oTk b5 3 [] q 0 (-1)::(R++[oTk b4 0 [] 0 0 0])) ((b9,Obj.cells (bytesV [s.getD i 0]).toArray 5 (0,0))::(R++[oTk b5 3 [] q 0 (-1),oTk b4 0 [] 0 0 0])))) (appendB [s.getD i 0] un_108 infoU8Q (RowO.frame hR) hb9 (by simp only[qN,qO]; omega) (fun v5 L5 hro5=>?_))
  (refine Exists.elim (RowO.unframe hro5) (fun R5 hz=>?_); have ez:=hz.1; subst ez; have hR5:=hz.2; clear hz)
  simp (disch:=omega) only[push_cast,qE,h0,h4,h5,h6,h7]
  refine ⟨i+1,oTk b5 3 [] q 0 (-1)::(R5++[oTk b4 0 [] 0 0 0]),fun w hw=>?_,⟨rfl,rfl,by omega,h0,h4,h5,uu,_,R5,xs++[s.getD i 0],m,rfl,hR5.cast (by simp) (by rw[bytesV_append]),by simp only[qA,qN,qO]; omega,by omega,?_,rfl⟩,by omega⟩
  ·exact (hw.perm (permC fun f=>by simp only[wt_append,wt_cons,wt_nil]; omega:List.Perm _ ((b9,Obj.cells (bytesV [s.getD i 0]).toArray 5 (0,0))::oTk b5 3 [] q 0 (-1)::(R5++[oTk b4 0 [] 0 0 0])))).drop (.cons _ (List.Sublist.refl _)) (fun p hp=>by
    rcases List.mem_cons.1 hp with rfl|hp
    ·exact .inr hb9
    ·exact .inl hp)
  ·rw[ht,show pRest s (m+1) i=(pRest s m (i+1)).and fun l r2=>.ok (s.getD i 0::l) r2 from by rw[pRest,hat]; simp only; rw[if_neg n34,if_neg n92,if_pos ⟨by omega,by omega⟩],pr_cons]
 have c92:s.getD i 0=92:=by rw[← q92]; simpa using hc2
 have hpr:pRest s (m+1) i=(pEsc s i).and fun x r=>(pRest s m r).and fun l r2=>.ok (x::l) r2:=by
  rw[pRest,hat]
  simp only
  rw[if_neg n34,if_pos c92]
 simp (disch:=omega) only[push_cast,qE,h0,h4,h5,h6,h7]
 rw[Vc]
 simp (disch:=omega) only[push_cast,qE,h0,h4,h5,h6,h7]
 refine cdD (fun hend=>?_) (fun hend=>?_)
 ·simp (disch:=omega) only[push_cast,qE,h0,h4,h5,h6,h7]
  refine sXa 0 rfl Siz.eq rfl rfl ?_
  simp (disch:=omega) only[push_cast,qE,h0,h4,h5,h6,h7]
  refine lAg Shp.eq mem0 rfl rfl ?_
  simp (disch:=omega) only[push_cast,qE,h0,h4,h5,h6,h7]
  refine storeX_weak (L':=oTk b4 0 [] 0 0 0::oTk b5 3 [] q 0 s.length::R) (fun w hw=>hw.perm (permC (fun f=>by simp only[wt_append,wt_cons,wt_nil]; omega):List.Perm (oTk b5 3 [] q 0 s.length::(R++[oTk b4 0 [] 0 0 0])) (oTk b4 0 [] 0 0 0::oTk b5 3 [] q 0 s.length::R))) (sXa 0 rfl Siz.eq rfl rfl ?_)
  simp (disch:=omega) only[push_cast,qE,h0,h4,h5,h6,h7]
  refine lAg Shp.eq mem0 rfl rfl ?_
  simp (disch:=omega) only[push_cast,qE,h0,h4,h5,h6,h7]
  exact finIs (hLn _ _) (hno s.length (by rw[hpr]; unfold pEsc; rw[List.getElem?_eq_none (by omega)]; rfl))
 have hat1:=getD_at (s:=s) (i:=i+1) (by omega)
 have tn1:((i:Int)+1).toNat=i+1:=by omega
 have r34:(((s.getD (i+1) 0).toNat:Int)=34)=(s.getD (i+1) 0=34):=u8_eq (by decide)
 have r92:(((s.getD (i+1) 0).toNat:Int)=92)=(s.getD (i+1) 0=92):=u8_eq (by decide)
 have r120:(((s.getD (i+1) 0).toNat:Int)=120)=(s.getD (i+1) 0=120):=u8_eq (by decide)
 have hes:(s.getD (i+1) 0=34∨s.getD (i+1) 0=92)→pRest s (m+1) i=(pRest s m (i+2)).and fun l r2=>.ok (s.getD (i+1) 0::l) r2:=fun h=>by
  rw[hpr]
  unfold pEsc
  rw[hat1]
  simp only
  rw[if_pos h]
  rfl
 simp (disch:=omega) only[push_cast,qE,h0,h4,h5,h6,h7,tn1]
 refine gF rfl (fun e34=>?_) (fun e34=>?_)
 rotate_left
 ·simp (disch:=omega) only[push_cast,qE,h0,h4,h5,h6,h7,tn1]
  rw[Vc]
  simp (disch:=omega) only[push_cast,qE,h0,h4,h5,h6,h7,tn1]
  refine bs_108_1 (newI fun b9 hb9 hn9=>?_)
  simp (disch:=omega) only[push_cast,qE,h0,h4,h5,h6,h7]
  refine valX_weak (L':=(b9,Obj.cells (bytesV [s.getD (i+1) 0]).toArray 5 (0,0))::(R++[oTk b5 3 [] q 0 (-1),oTk b4 0 [] 0 0 0])) (fun w hw=>hw.perm (permC (fun f=>by simp only[wt_append,wt_cons,wt_nil]; omega):List.Perm ((b9,Obj.cells (bytesV [s.getD (i+1) 0]).toArray 5 (0,0))::oTk b5 3 [] q 0 (-1)::(R++[oTk b4 0 [] 0 0 0])) ((b9,Obj.cells (bytesV [s.getD (i+1) 0]).toArray 5 (0,0))::(R++[oTk b5 3 [] q 0 (-1),oTk b4 0 [] 0 0 0])))) (appendB [s.getD (i+1) 0] un_108 infoU8Q (RowO.frame hR) hb9 (by simp only[qN,qO]; omega) (fun v5 L5 hro5=>?_))
  (refine Exists.elim (RowO.unframe hro5) (fun R5 hz=>?_); have ez:=hz.1; subst ez; have hR5:=hz.2; clear hz)
  simp (disch:=omega) only[push_cast,qE,h0,h4,h5,h6,h7]
  refine ⟨i+2,oTk b5 3 [] q 0 (-1)::(R5++[oTk b4 0 [] 0 0 0]),fun w hw=>?_,⟨rfl,rfl,by omega,h0,h4,h5,uu,_,R5,xs++[s.getD (i+1) 0],m,rfl,hR5.cast (by simp) (by rw[bytesV_append]),by simp only[qA,qN,qO]; omega,by omega,?_,rfl⟩,by omega⟩
  ·exact (hw.perm (permC fun f=>by simp only[wt_append,wt_cons,wt_nil]; omega:List.Perm _ ((b9,Obj.cells (bytesV [s.getD (i+1) 0]).toArray 5 (0,0))::oTk b5 3 [] q 0 (-1)::(R5++[oTk b4 0 [] 0 0 0])))).drop (.cons _ (List.Sublist.refl _)) (fun p hp=>by
    rcases List.mem_cons.1 hp with rfl|hp
    ·exact .inr hb9
    ·exact .inl hp)
  ·rw[ht,show pRest s (m+1) i=(pRest s m (i+2)).and fun l r2=>.ok (s.getD (i+1) 0::l) r2 from by exact hes (.inl (by rw[← r34]; exact e34)),pr_cons]
 simp (disch:=omega) only[push_cast,qE,h0,h4,h5,h6,h7,tn1]
 rw[Vc]
 simp (disch:=omega) only[push_cast,qE,h0,h4,h5,h6,h7,tn1]
 refine cdD (fun e92=>?_) (fun e92=>?_)
 ·simp (disch:=omega) only[push_cast,qE,h0,h4,h5,h6,h7,tn1]
  refine bs_108_1 (newI fun b9 hb9 hn9=>?_)
  simp (disch:=omega) only[push_cast,qE,h0,h4,h5,h6,h7]
  refine valX_weak (L':=(b9,Obj.cells (bytesV [s.getD (i+1) 0]).toArray 5 (0,0))::(R++[oTk b5 3 [] q 0 (-1),oTk b4 0 [] 0 0 0])) (fun w hw=>hw.perm (permC (fun f=>by simp only[wt_append,wt_cons,wt_nil]; omega):List.Perm ((b9,Obj.cells (bytesV [s.getD (i+1) 0]).toArray 5 (0,0))::oTk b5 3 [] q 0 (-1)::(R++[oTk b4 0 [] 0 0 0])) ((b9,Obj.cells (bytesV [s.getD (i+1) 0]).toArray 5 (0,0))::(R++[oTk b5 3 [] q 0 (-1),oTk b4 0 [] 0 0 0])))) (appendB [s.getD (i+1) 0] un_108 infoU8Q (RowO.frame hR) hb9 (by simp only[qN,qO]; omega) (fun v5 L5 hro5=>?_))
  (refine Exists.elim (RowO.unframe hro5) (fun R5 hz=>?_); have ez:=hz.1; subst ez; have hR5:=hz.2; clear hz)
  simp (disch:=omega) only[push_cast,qE,h0,h4,h5,h6,h7]
  refine ⟨i+2,oTk b5 3 [] q 0 (-1)::(R5++[oTk b4 0 [] 0 0 0]),fun w hw=>?_,⟨rfl,rfl,by omega,h0,h4,h5,uu,_,R5,xs++[s.getD (i+1) 0],m,rfl,hR5.cast (by simp) (by rw[bytesV_append]),by simp only[qA,qN,qO]; omega,by omega,?_,rfl⟩,by omega⟩
  ·exact (hw.perm (permC fun f=>by simp only[wt_append,wt_cons,wt_nil]; omega:List.Perm _ ((b9,Obj.cells (bytesV [s.getD (i+1) 0]).toArray 5 (0,0))::oTk b5 3 [] q 0 (-1)::(R5++[oTk b4 0 [] 0 0 0])))).drop (.cons _ (List.Sublist.refl _)) (fun p hp=>by
    rcases List.mem_cons.1 hp with rfl|hp
    ·exact .inr hb9
    ·exact .inl hp)
  ·rw[ht,show pRest s (m+1) i=(pRest s m (i+2)).and fun l r2=>.ok (s.getD (i+1) 0::l) r2 from by exact hes (.inr (by rw[← r92]; exact e92)),pr_cons]
 have m34:¬ (s.getD (i+1) 0=34∨s.getD (i+1) 0=92):=by
  rw[← r34,← r92]
  omega
 simp (disch:=omega) only[push_cast,qE,h0,h4,h5,h6,h7,tn1]
 rw[Vc]
 simp (disch:=omega) only[push_cast,qE,h0,h4,h5,h6,h7,tn1]
 refine cdD (fun ex=>?_) (fun ex=>?_)
 ·simp (disch:=omega) only[push_cast,qE,h0,h4,h5,h6,h7,tn1]
  refine sXa 0 rfl Siz.eq rfl rfl ?_
  simp (disch:=omega) only[push_cast,qE,h0,h4,h5,h6,h7]
  refine lAg Shp.eq mem0 rfl rfl ?_
  simp (disch:=omega) only[push_cast,qE,h0,h4,h5,h6,h7]
  refine storeX_weak (L':=oTk b4 0 [] 0 0 0::oTk b5 3 [] q 0 i::R) (fun w hw=>hw.perm (permC (fun f=>by simp only[wt_append,wt_cons,wt_nil]; omega):List.Perm (oTk b5 3 [] q 0 i::(R++[oTk b4 0 [] 0 0 0])) (oTk b4 0 [] 0 0 0::oTk b5 3 [] q 0 i::R))) (sXa 0 rfl Siz.eq rfl rfl ?_)
  simp (disch:=omega) only[push_cast,qE,h0,h4,h5,h6,h7]
  refine lAg Shp.eq mem0 rfl rfl ?_
  simp (disch:=omega) only[push_cast,qE,h0,h4,h5,h6,h7]
  exact finIs (hLn _ _) (hno i (by rw[hpr]; unfold pEsc; rw[hat1]; simp only; rw[if_neg m34,if_pos (fun h=>ex (by rw[h]; rfl))]; rfl))
 have e120:s.getD (i+1) 0=120:=by rw[← r120]; omega
 have hp0:i+2=s.length→pEsc s i=.no s.length:=fun h=>by
  unfold pEsc
  rw[hat1]
  simp only
  rw[if_neg m34,if_neg (fun h=>h e120),List.getElem?_eq_none (by omega)]
 have hp1:∀ x,i+3=s.length→hexV (s.getD (i+2) 0)=some x→pEsc s i=.no s.length:=fun x h hx=>by
  unfold pEsc
  rw[hat1]
  simp only
  rw[if_neg m34,if_neg (fun h=>h e120),getD_at (s:=s) (i:=i+2) (by omega)]
  simp only
  rw[hx]
  simp only
  rw[List.getElem?_eq_none (by omega)]
 have hp2:i+2 < s.length→hexV (s.getD (i+2) 0)=none→pEsc s i=.no i:=fun h hx=>by
  unfold pEsc
  rw[hat1]
  simp only
  rw[if_neg m34,if_neg (fun h=>h e120),getD_at (s:=s) (i:=i+2) (by omega)]
  simp only
  rw[hx]
 have hp3:∀ x,i+3 < s.length→hexV (s.getD (i+2) 0)=some x→hexV (s.getD (i+3) 0)=none→pEsc s i=.no i:=fun x h hx hy=>by
  unfold pEsc
  rw[hat1]
  simp only
  rw[if_neg m34,if_neg (fun h=>h e120),getD_at (s:=s) (i:=i+2) (by omega)]
  simp only
  rw[hx]
  simp only
  rw[getD_at (s:=s) (i:=i+3) (by omega)]
  simp only
  rw[hy]
 have hp4:∀ x y,i+3 < s.length→hexV (s.getD (i+2) 0)=some x→hexV (s.getD (i+3) 0)=some y→pEsc s i=.ok (UInt8.ofNat (16 * x+y)) (i+4):=fun x y h hx hy=>by
  unfold pEsc
  rw[hat1]
  simp only
  rw[if_neg m34,if_neg (fun h=>h e120),getD_at (s:=s) (i:=i+2) (by omega)]
  simp only
  rw[hx]
  simp only
  rw[getD_at (s:=s) (i:=i+3) (by omega)]
  simp only
  rw[hy]
 simp (disch:=omega) only[push_cast,qE,h0,h4,h5,h6,h7,tn1]
 rw[Vb]
 simp (disch:=omega) only[push_cast,qE,h0,h4,h5,h6,h7,tn1]
 refine loopW (G:=Nat) (HxqI wb s q b4 b5 v R i) (fun j=>2 - j) 0 _ (fun w hw=>hw) (by kernel_rfl) ⟨rfl,rfl,by omega,by omega,h0,h4,h5,h6,h7,uu,⟨0,rfl,.inl ⟨rfl,rfl⟩⟩,rfl⟩ ?_
 clear h0 h4 h5 h6 h7
 rintro j wb e ds L ⟨rfl,rfl,hj,hjl,h0,h4,h5,h6,h7,h10,⟨X,h9,hX⟩,rfl⟩
 simp (disch:=omega) only[push_cast,qE,h0,h4,h5,h6,h7,h9,h10]
 refine gT rfl (fun hk4=>?_) (fun hk4=>?_)
 rotate_left
 ·obtain rfl:j=2:=by omega
  have hpe:pEsc s i=.ok X (i+4):=by
   rcases hX with ⟨h,_⟩|⟨h,_⟩|⟨_,h⟩
   ·omega
   ·omega
   ·exact h
  simp (disch:=omega) only[push_cast,qE,h0,h4,h5,h6,h7,h9,h10]
  rw[Vc]
  simp (disch:=omega) only[push_cast,qE,h0,h4,h5,h6,h7,h9,h10]
  rw[Vc]
  simp (disch:=omega) only[push_cast,qE,h0,h4,h5,h6,h7,h9,h10]
  refine cdD (fun h=>by omega) (fun _=>?_)
  have hx0:(0:Int)≤X.toNat∧(X.toNat:Int)≤255:=by have:=X.toNat_lt; omega
  simp (disch:=omega) only[push_cast,qE,h0,h4,h5,h6,h7,h9,h10]
  refine bs_108_1 (newI fun b9 hb9 hn9=>?_)
  simp (disch:=omega) only[push_cast,qE,h0,h4,h5,h6,h7]
  refine valX_weak (L':=(b9,Obj.cells (bytesV [X]).toArray 5 (0,0))::(R++[oTk b5 3 [] q 0 (-1),oTk b4 0 [] 0 0 0])) (fun w hw=>hw.perm (permC (fun f=>by simp only[wt_append,wt_cons,wt_nil]; omega):List.Perm ((b9,Obj.cells (bytesV [X]).toArray 5 (0,0))::oTk b5 3 [] q 0 (-1)::(R++[oTk b4 0 [] 0 0 0])) ((b9,Obj.cells (bytesV [X]).toArray 5 (0,0))::(R++[oTk b5 3 [] q 0 (-1),oTk b4 0 [] 0 0 0])))) (appendB [X] un_108 infoU8Q (RowO.frame hR) hb9 (by simp only[qN,qO]; omega) (fun v5 L5 hro5=>?_))
  (refine Exists.elim (RowO.unframe hro5) (fun R5 hz=>?_); have ez:=hz.1; subst ez; have hR5:=hz.2; clear hz)
  simp (disch:=omega) only[push_cast,qE,h0,h4,h5,h6,h7]
  refine ⟨i+4,oTk b5 3 [] q 0 (-1)::(R5++[oTk b4 0 [] 0 0 0]),fun w hw=>?_,⟨rfl,rfl,by omega,h0,h4,h5,uu,_,R5,xs++[X],m,rfl,hR5.cast (by simp) (by rw[bytesV_append]),by simp only[qA,qN,qO]; omega,by omega,?_,rfl⟩,by omega⟩
  ·exact (hw.perm (permC fun f=>by simp only[wt_append,wt_cons,wt_nil]; omega:List.Perm _ ((b9,Obj.cells (bytesV [X]).toArray 5 (0,0))::oTk b5 3 [] q 0 (-1)::(R5++[oTk b4 0 [] 0 0 0])))).drop (.cons _ (List.Sublist.refl _)) (fun p hp=>by
    rcases List.mem_cons.1 hp with rfl|hp
    ·exact .inr hb9
    ·exact .inl hp)
  ·rw[ht,show pRest s (m+1) i=(pRest s m (i+4)).and fun l r2=>.ok (X::l) r2 from by rw[hpr,hpe]; rfl,pr_cons]
 simp (disch:=omega) only[push_cast,qE,h0,h4,h5,h6,h7,h9,h10]
 rw[Vc]
 simp (disch:=omega) only[push_cast,qE,h0,h4,h5,h6,h7,h9,h10]
 refine cdD (fun hkl=>?_) (fun hkl=>?_)
 rotate_left
 ·simp (disch:=omega) only[push_cast,qE,h0,h4,h5,h6,h7,h9,h10]
  rw[Vc]
  simp (disch:=omega) only[push_cast,qE,h0,h4,h5,h6,h7,h9,h10]
  refine cdD (fun _=>?_) (fun h=>by omega)
  have hpe:pEsc s i=.no s.length:=by
   rcases hX with ⟨h,_⟩|⟨h,h1⟩|⟨h,_⟩
   ·exact hp0 (by omega)
   ·exact hp1 _ (by omega) h1
   ·omega
  simp (disch:=omega) only[push_cast,qE,h0,h4,h5,h6,h7,h9,h10]
  refine sXa 0 rfl Siz.eq rfl rfl ?_
  simp (disch:=omega) only[push_cast,qE,h0,h4,h5,h6,h7]
  refine lAg Shp.eq mem0 rfl rfl ?_
  simp (disch:=omega) only[push_cast,qE,h0,h4,h5,h6,h7]
  refine storeX_weak (L':=oTk b4 0 [] 0 0 0::oTk b5 3 [] q 0 s.length::R) (fun w hw=>hw.perm (permC (fun f=>by simp only[wt_append,wt_cons,wt_nil]; omega):List.Perm (oTk b5 3 [] q 0 s.length::(R++[oTk b4 0 [] 0 0 0])) (oTk b4 0 [] 0 0 0::oTk b5 3 [] q 0 s.length::R))) (sXa 0 rfl Siz.eq rfl rfl ?_)
  simp (disch:=omega) only[push_cast,qE,h0,h4,h5,h6,h7]
  refine lAg Shp.eq mem0 rfl rfl ?_
  simp (disch:=omega) only[push_cast,qE,h0,h4,h5,h6,h7]
  exact finIs (hLn _ _) (hno s.length (by rw[hpr,hpe]; rfl))
 have tn2:((i:Int)+2+j).toNat=i+2+j:=by omega
 simp (disch:=omega) only[push_cast,qE,h0,h4,h5,h6,h7,h9,h10]
 rw[Vb]
 simp (disch:=omega) only[push_cast,qE,h0,h4,h5,h6,h7,h9,h10,tn2]
 have hor:hexV (s.getD (i+2+j) 0)=none∨∃ h,hexV (s.getD (i+2+j) 0)=some h:=by
  cases hexV (s.getD (i+2+j) 0) with
  | none=>exact .inl rfl
  | some h=>exact .inr ⟨h,rfl⟩
 refine hor.elim (fun hn=>?_) (fun hh=>?_)
 ·refine callV en_119 (cIs (v:=i64 (-1)) (fun w' _=>by
   have h1:=hexR_walk w' (s.getD (i+2+j) 0)
   rw[show hexI (s.getD (i+2+j) 0)=-1 by unfold hexI; rw[hn]] at h1
   exact h1) ?_)
  simp (disch:=omega) only[push_cast,qE,h0,h4,h5,h6,h7,h9,h10,tn2]
  rw[Vc]
  simp (disch:=omega) only[push_cast,qE,h0,h4,h5,h6,h7,h9,h10,tn2]
  try refine cdD (fun _=>?_) (fun h=>absurd (by decide) h)
  have hpe:pEsc s i=.no i:=by
   rcases hX with ⟨h,_⟩|⟨h,h1⟩|⟨h,_⟩
   ·subst h; exact hp2 (by omega) hn
   ·subst h; exact hp3 _ (by omega) h1 hn
   ·omega
  simp (disch:=omega) only[push_cast,qE,h0,h4,h5,h6,h7,h9,h10,tn2]
  refine sXa 0 rfl Siz.eq rfl rfl ?_
  simp (disch:=omega) only[push_cast,qE,h0,h4,h5,h6,h7]
  refine lAg Shp.eq mem0 rfl rfl ?_
  simp (disch:=omega) only[push_cast,qE,h0,h4,h5,h6,h7]
  refine storeX_weak (L':=oTk b4 0 [] 0 0 0::oTk b5 3 [] q 0 i::R) (fun w hw=>hw.perm (permC (fun f=>by simp only[wt_append,wt_cons,wt_nil]; omega):List.Perm (oTk b5 3 [] q 0 i::(R++[oTk b4 0 [] 0 0 0])) (oTk b4 0 [] 0 0 0::oTk b5 3 [] q 0 i::R))) (sXa 0 rfl Siz.eq rfl rfl ?_)
  simp (disch:=omega) only[push_cast,qE,h0,h4,h5,h6,h7]
  refine lAg Shp.eq mem0 rfl rfl ?_
  simp (disch:=omega) only[push_cast,qE,h0,h4,h5,h6,h7]
  exact finIs (hLn _ _) (hno i (by rw[hpr,hpe]; rfl))
 (refine Exists.elim (hh) (fun h hz=>?_); have hh2:=hz; clear hz)
 have h16:=hex_lt hh2
 refine callV en_119 (cIs (v:=i64 h) (fun w' _=>by
  have h1:=hexR_walk w' (s.getD (i+2+j) 0)
  rw[show hexI (s.getD (i+2+j) 0)=(h:Int) by unfold hexI; rw[hh2]] at h1
  exact h1) ?_)
 simp (disch:=omega) only[push_cast,qE,h0,h4,h5,h6,h7,h9,h10,tn2]
 rw[Vc]
 simp (disch:=omega) only[push_cast,qE,h0,h4,h5,h6,h7,h9,h10,tn2]
 refine cdD (fun h=>by omega) (fun _=>?_)
 simp (disch:=omega) only[push_cast,qE,h0,h4,h5,h6,h7,h9,h10,tn2]
 refine callV en_119 (cIs (v:=i64 h) (fun w' _=>by
  have h1:=hexR_walk w' (s.getD (i+2+j) 0)
  rw[show hexI (s.getD (i+2+j) 0)=(h:Int) by unfold hexI; rw[hh2]] at h1
  exact h1) ?_)
 have hXl:X.toNat < 16:=by
  rcases hX with ⟨h,h1⟩|⟨h,h1⟩|⟨h,_⟩
  ·rw[h1]; decide
  ·exact hex_lt h1
  ·omega
 simp (disch:=omega) only[push_cast,qE,h0,h4,h5,h6,h7,h9,h10,tn2]
 have hX2:(UInt8.ofNat (16 * X.toNat+h)).toNat=16 * X.toNat+h:=by rw[UInt8.toNat_ofNat']; omega
 refine ⟨j+1,_,fun w hw=>hw,⟨rfl,rfl,by omega,by omega,h0,h4,h5,h6,h7,?_,⟨UInt8.ofNat (16 * X.toNat+h),?_,?_⟩,rfl⟩,by omega⟩
 ·simp only[upd]
  show i64 _=i64 _
  congr 1
  try omega
 ·rw[hX2]
  simp only[upd]
  show i64 _=i64 _
  congr 1
  try omega
 ·rcases hX with ⟨e,h1⟩|⟨e,h1⟩|⟨e,_⟩
  ·subst e
   refine .inr (.inl ⟨rfl,?_⟩)
   rw[hX2,h1]
   simpa using hh2
  ·subst e
   refine .inr (.inr ⟨rfl,?_⟩)
   exact hp4 _ _ (by omega) h1 hh2
  ·omega
end Go.Proofs.YtdmdgkpjjpijdaaGreatDoor
