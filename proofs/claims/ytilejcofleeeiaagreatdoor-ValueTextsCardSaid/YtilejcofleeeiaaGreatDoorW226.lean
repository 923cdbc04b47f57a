/- YtilejcofleeeiaaGreatDoor: walks, part 226: the program's printer: the values of a list; any value, whatever its depth. -/
import Derived.Test.YtilejcofleeeiaaGreatDoorW225
namespace Go.Proofs.YtilejcofleeeiaaGreatDoor
open Go Go.K
open Nat renaming reduceEqDiff → qE
open List renaming length_cons → qN, length_append → qA, getElem?_eq_getElem → qH
set_option maxRecDepth 100000
set_option linter.unusedVariables false
set_option linter.unusedSimpArgs false
set_option maxHeartbeats 4000000
structure PlI (w0:World) (pb:Nat) (bs:List UInt8) (op cl:UInt8) (M:Own) (d:Nat) (f:Fld) (v:Vl) (o4:Nat×Obj) (va:Option Addr) (vc:Nat) (i:Nat) (wb:World) (e:Env) (ds:List Deferred) (L:Own):Prop where
 hw:wb=w0
 hds:ds=[]
 o:∃ bs',BlO w0 58 pb bs' L ([o4]++M)∧CutS bs (op::itemsT f (showV d) 0 (v.ls.take i)) bs'∧bs'.length≤bs.length+1+10 * wL (v.ls.take i)
 hi:i≤v.ls.length
 h0:e 0=selfP pb
 h4:e 4=.pointer (some ⟨o4.1,0,none⟩)
 h6:e 6=str [op,cl]
 h19:e 19=.slice va v.ls.length vc
 h20:e 20=i64 v.ls.length
 h21:e 21=i64 i
structure PlA (w0:World) (pb:Nat) (op cl:UInt8) (L0:Own) (f:Fld) (v:Vl) (b4:Nat) (va:Option Addr) (vc:Nat) (wb:World) (e:Env) (ds:List Deferred) (L:Own):Prop where
 hw:wb=w0
 hds:ds=[]
 o:L=L0
 h0:e 0=selfP pb
 h2:e 2=.slice va v.ls.length vc
 h4:e 4=.pointer (some ⟨b4,0,none⟩)
 h6:e 6=str [op,cl]
theorem PrC.drop {wb w':World} {pb n:Nat} {bs x:List UInt8} {A M:Own} {e:Ending} (hA:∀ p∈A,wb.heap.size≤p.1) (h:PrC wb pb bs x n (A++M) e w'):PrC wb pb bs x n M e w':=by
 obtain ⟨v,L,he,hs,hv,bs',hB,hc,hn⟩:=h
 obtain ⟨L',h1,h2⟩:=hB.drop A hA
 exact ⟨v,L',he,h2 w' hs,hv,bs',h1,hc,hn⟩
structure PlB (w0:World) (pb:Nat) (op cl:UInt8) (M:Own) (bs5:List UInt8) (o4 o8:Nat×Obj) (va:Option Addr) (vc n i:Nat) (wb:World) (e:Env) (ds:List Deferred) (L:Own):Prop where
 hw:wb=w0
 hds:ds=[]
 o:∀ A,∃ L',BlO w0 58 pb bs5 L' (A++([o8]++([o4]++M)))∧∀ w,Sy w0 (A++L) w→Sy w0 L' w
 m8:o8∈L
 m4:o4∈L
 hn:∀ p∈L,w0.heap.size≤p.1
 h0:e 0=selfP pb
 h4:e 4=.pointer (some ⟨o4.1,0,none⟩)
 h6:e 6=str [op,cl]
 h7:e 7=i64 i
 h8:e 8=.pointer (some ⟨o8.1,0,none⟩)
 h19:e 19=.slice va n vc
 h20:e 20=i64 n
 h21:e 21=i64 i
structure PlC (w0:World) (lo pb:Nat) (op cl:UInt8) (M:Own) (g:Fld) (bs6:List UInt8) (o4 o8:Nat×Obj) (b9:Nat) (va:Option Addr) (vc n i:Nat) (wb:World) (e:Env) (ds:List Deferred) (L:Own):Prop where
 hw:wb=w0
 hds:ds=[]
 o:∃ ga gc L',FlAt w0 lo g ga gc∧(b9,Obj.cells (g.cells ga gc).toArray 26 (0,0))∈L∧BlO w0 58 pb bs6 L' ([(b9,Obj.cells (g.cells ga gc).toArray 26 (0,0)),o8]++([o4]++M))∧∀ w,Sy w0 L w→Sy w0 L' w
 m8:o8∈L
 h0:e 0=selfP pb
 h4:e 4=.pointer (some ⟨o4.1,0,none⟩)
 h6:e 6=str [op,cl]
 h7:e 7=i64 i
 h8:e 8=.pointer (some ⟨o8.1,0,none⟩)
 h9:e 9=.pointer (some ⟨b9,0,none⟩)
 h19:e 19=.slice va n vc
 h20:e 20=i64 n
 h21:e 21=i64 i
theorem plist_step (d:Nat) (hP:PrOK d):PsOK d:=by
 intro wb w lo pb bs L M ind f v a va c vc hl hlo hok hk hnu hfit hr hA hV hB hM hlen hw
 obtain ⟨_,f17,_,ftx,fall⟩:=fit_list hnu hk hfit
 have hwe:=wV_eq v
 have h96:v.ls.length≤4096:=by rw[fitD] at hfit; exact of_decide_eq_true (Bool.and_eq_true_iff.1 hfit).1
 obtain ⟨op,hop⟩:∃ op:UInt8,(if f.k=17 then 123 else 91)=op:=⟨_,rfl⟩
 obtain ⟨cl,hcl⟩:∃ cl:UInt8,(if f.k=17 then 125 else 93)=cl:=⟨_,rfl⟩
 have hsub:0 < v.ls.length→0 < f.sub.length:=fun h0=>by
  obtain ⟨g,hg,_⟩:=fall 0 _ (qH h0)
  have:=(List.getElem?_eq_some_iff.1 hg).1
  omega
 refine enterB (args:=[selfP pb,.agg (f.tcells a c).toArray,.slice va v.ls.length vc]) Tryz.func53 rfl Tryz.ntmps53 (congrArg Array.toList Tryz.results53) (by kernel_rfl) (by simp) hw ?_
 simp (disch:=omega) only[push_cast,qE,Fld.tcells]
 refine newI (fun b4 hb4 hn4=>?_)
 simp (disch:=omega) only[push_cast,qE,Fld.tcells]
 refine lOn Shp.eq mem0 rfl ?_
 refine sp ?_
 obtain ⟨o4,ho4⟩:∃ o,o=(qb1 b4 f a c):=⟨_,rfl⟩
 have hA1:∀ p∈[o4],wb.heap.size≤p.1:=fun p hp=>by rw[List.mem_singleton.1 hp,ho4]; exact hb4
 obtain ⟨L1,hB1,hs1⟩:=hB.over [o4]
 have hM1:∀ p∈[o4]++M,wb.heap.size≤p.1:=fun p hp=>(List.mem_append.1 hp).elim (hA1 p) (hM p)
 have hs1':∀ w',Sy wb ((qb1 b4 f a c)::L) w'→Sy wb L1 w':=fun w' hw'=>hs1 w' (by rw[ho4]; exact hw')
 refine cutV (PlA wb pb op cl ((qb1 b4 f a c)::L) f v b4 va vc) ?_ ?_
 ·rw[Vc]
  refine sp ?_
  refine cdD (fun h=>?_) (fun h=>?_)
  ·refine sp ?_
   exact ⟨rfl,rfl,rfl,rfl,rfl,rfl,by rw[← hop,← hcl,if_pos h,if_pos h]; rfl⟩
  ·refine sp ?_
   exact ⟨rfl,rfl,rfl,rfl,rfl,rfl,by rw[← hop,← hcl,if_neg h,if_neg h]; rfl⟩
 rintro wb e ds L' ⟨rfl,rfl,rfl,h0,h2,h4,h6⟩
 refine sp ?_
 refine freeT [0,1,2,3,4] [5] [] (by kernel_rfl) mixed (by kernel_rfl) (fun w' hw'=>(hs1' w' hw').end (hB1.new hM1)) ?_
 simp (disch:=omega) only[push_cast,qE,h0,h6]
 refine Eq.mpr (is_9 [op,cl] .i64 0 (by decide) (show (0:Int) < (2:Nat) by decide)) ?_
 rw[show ([op,cl]:List UInt8).getD (0:Int).toNat 0=op from rfl]
 simp (disch:=omega) only[push_cast,qE,h0,h6]
 refine callV en_52 (callX_weak hs1' (callX_own (fun w' hw'=>writeByte_walk wb w' _ (.inr rfl) pb bs op L1 _ hB1 (by omega) hw') (fun v' L2 hv2=>?_)))
 obtain ⟨rfl,hB2⟩:=hv2
 refine ⟨rfl,Stab.of (List.nil_sublist _) (hB2.new hM1),?_⟩
 simp (disch:=omega) only[push_cast,qE,h2]
 rw[Vb]
 simp (disch:=omega) only[push_cast,qE,h2]
 refine loopW (G:=Nat) (PlI wb pb bs op cl M d f v o4 va vc) (fun i=>v.ls.length - i) 0 L2 (fun w hw=>hw) (by kernel_rfl) ⟨rfl,rfl,⟨_,hB2,CutS.self _ _,by simp⟩,Nat.zero_le _,h0,by rw[ho4]; exact h4,h6,rfl,rfl,rfl⟩ ?_
 clear h0 h2 h4 h6 e hB2
 rintro i wb e ds L3 ⟨rfl,rfl,⟨bs3,hB3,hc3,hn3⟩,hi,h0,h4,h6,h19,h20,h21⟩
 have m4:(qb1 b4 f a c)∈L3:=by first|(rw[← ho4]; exact hB3.sub _ mem0)|(subst ho4; exact hB3.sub _ mem0)
 rw[ho4] at h4
 have hwl:=wL_take_le v.ls i
 simp (disch:=omega) only[push_cast,qE,h20,h21]
 rw[Vc]
 simp (disch:=omega) only[push_cast,qE,h20,h21]
 refine cdD (fun hlt=>?_) (fun hge=>?_)
 rotate_left
 ·obtain rfl:i=v.ls.length:=by omega
  rw[List.take_length] at hc3 hn3
  refine sp ?_
  refine freeT [0,1,2,3,4] [5] [] (by kernel_rfl) mixed (by kernel_rfl) (Stab.of (List.nil_sublist _) (hB3.new hM1)) ?_
  simp (disch:=omega) only[push_cast,qE,h0,h6]
  refine Eq.mpr (is_9 [op,cl] .i64 1 (by decide) (show (1:Int) < (2:Nat) by decide)) ?_
  rw[show ([op,cl]:List UInt8).getD (1:Int).toNat 0=cl from rfl]
  simp (disch:=omega) only[push_cast,qE,h0,h6]
  refine callV en_52 (callX_own (fun w' hw'=>writeByte_walk wb w' _ (.inr rfl) pb bs3 cl L3 _ hB3 (by omega) hw') (fun v' L4 hv4=>?_))
  obtain ⟨rfl,hB4⟩:=hv4
  refine ⟨rfl,Stab.of (List.nil_sublist _) (hB4.new hM1),?_⟩
  refine sp ?_
  refine fun w' hw'=>PrC.fin (A:=[o4]) hB4 hA1 ?_ (by simp only[qA,qN,List.length_nil]; omega) hw'
  unfold listT
  rw[hop,hcl]
  exact hc3.add [cl]
 obtain ⟨x,hx⟩:∃ x,v.ls[i]?=some x:=⟨_,qH (by omega)⟩
 obtain ⟨g,hg,hgx⟩:=fall i x hx
 have hgm:=List.mem_of_getElem? hg
 have hxm:=List.mem_of_getElem? hx
 have hpos:0 < f.sub.length:=hsub (by omega)
 obtain ⟨g0,hg0⟩:∃ g0,f.sub[0]?=some g0:=⟨_,qH hpos⟩
 obtain ⟨gb,goff,ga,gc,rfl,q1,q2,q3⟩:=hA.get hg0
 obtain ⟨gb',goff',ga',gc',he',r1,r2,r3⟩:=hA.get hg
 obtain ⟨rfl,rfl⟩:gb=gb'∧goff=goff':=by injection he' with h; injection h with h1 h2 h3; exact ⟨h1,h2⟩
 obtain ⟨xb,xoff,xa,xc,rfl,x1,x2,x3⟩:=hV.get hx
 rw[Nat.zero_mul,Nat.add_zero] at q2
 have hwn:=wL_take hx
 have hwx:=wL_take_le v.ls (i+1)
 have hnm:=((hok.2 g hgm).name).2.2
 simp (disch:=omega) only[push_cast,qE,h19,h21]
 rw[Vb]
 simp (disch:=omega) only[push_cast,qE,h19,h21]
 refine ldAggF Shp.eq x2 rfl (out_of (fun p hp=>Nat.lt_of_lt_of_le (Nat.lt_of_lt_of_le x1 hlo) (hB3.new hM1 p hp))) ?_
 simp (disch:=omega) only[push_cast,qE,Vl.cells]
 refine newI (fun b8 hb8 hn8=>?_)
 simp (disch:=omega) only[push_cast,qE,Vl.cells]
 refine sXa 0 rfl Siz.eq rfl rfl ?_
 simp (disch:=omega) only[push_cast,qE,h21]
 have hb8':b8≠b4:=fun e=>hn8 (List.mem_map.2 ⟨_,m4,e.symm⟩)
 obtain ⟨o8,ho8⟩:∃ o,o=(qb3 b8 x.nu x.num x.tx xa x.ls.length xc):=⟨_,rfl⟩
 have hA8:∀ p∈[o8],wb.heap.size≤p.1:=fun p hp=>by rw[List.mem_singleton.1 hp,ho8]; exact hb8
 have hM8:∀ p∈[o8]++([o4]++M),wb.heap.size≤p.1:=fun p hp=>(List.mem_append.1 hp).elim (hA8 p) (hM1 p)
 obtain ⟨cm,hcm⟩:∃ cm:List UInt8,(if i=0 then [] else [44])=cm:=⟨_,rfl⟩
 have hcl1:cm.length≤1:=by rw[← hcm]; split<;>simp
 refine cutV (PlB wb pb op cl M (bs3++cm) o4 o8 (some ⟨xb,xoff,none⟩) vc v.ls.length i) ?_ ?_
 ·rw[Vc]
  refine sp ?_
  refine cdD (fun h=>?_) (fun h=>?_)
  ·obtain ⟨L4,hB4,hs4⟩:=hB3.over [o8]
   have hc1:cm=[44]:=by rw[← hcm,if_neg (by omega)]
   simp (disch:=omega) only[push_cast,qE,h0]
   refine callV en_52 (callX_weak (L':=L4) (by first|(rw[← ho8]; exact hs4)|(subst ho8; exact hs4)) (callX_own (fun w' hw'=>writeByte_walk wb w' _ (.inr rfl) pb bs3 44 L4 _ hB4 (by omega) hw') (fun v' L5 hv5=>?_)))
   obtain ⟨rfl,hB5⟩:=hv5
   refine sp ?_
   exact ⟨rfl,rfl,fun A=>by rw[hc1]; exact hB5.over A,hB5.sub _ (List.mem_append_left _ mem0),hB5.sub _ (List.mem_append_right _ mem0),hB5.new hM8,h0,by rw[ho4]; exact h4,h6,rfl,by rw[ho8]; rfl,h19,h20,h21⟩
  ·have hc1:cm=[]:=by rw[← hcm,if_pos (by omega)]
   refine sp ?_
   refine ⟨rfl,rfl,fun A=>?_,by rw[ho8]; exact mem0,by rw[ho4]; exact .tail _ m4,fun p hp=>?_,h0,by rw[ho4]; exact h4,h6,rfl,by rw[ho8]; rfl,h19,h20,h21⟩
   ·obtain ⟨L',q1,q2⟩:=hB3.over (A++[o8])
    refine ⟨L',by rw[hc1,List.append_nil]; rw[List.append_assoc] at q1; exact q1,fun w hw=>q2 w ?_⟩
    rw[List.append_assoc,ho8]
    exact hw
   ·rcases List.mem_cons.1 hp with rfl|hp
    ·exact hb8
    ·exact hB3.new hM1 p hp
 clear h0 h4 h6 h19 h20 h21 e m4 hn8
 rintro wb e ds L4 ⟨rfl,rfl,hO,m8,m4,hn4',h0,h4,h6,h7,h8,h19,h20,h21⟩
 have m4':(b4,Obj.cells #[i64 f.k,i64 f.wd,i64 f.id,i64 f.ix,.slice (some ⟨gb,goff,none⟩) f.sub.length c] 24 (0,0))∈L4:=by first|(rw[← ho4]; exact m4)|(subst ho4; exact m4)
 rw[ho4] at h4
 have hob:∀ p∈L4,gb < p.1:=fun p hp=>Nat.lt_of_lt_of_le (Nat.lt_of_lt_of_le q1 hlo) (hn4' p hp)
 simp (disch:=omega) only[push_cast,qE,h4]
 refine lOn Shp.eq m4' rfl ?_
 simp (disch:=omega) only[push_cast,qE,h4]
 refine ldAggF Shp.eq q2 rfl (out_of hob) ?_
 simp (disch:=omega) only[push_cast,qE,Fld.cells]
 refine newI (fun b9 hb9 hn9=>?_)
 simp (disch:=omega) only[push_cast,qE,Fld.cells]
 refine sXa 0 rfl Siz.eq rfl rfl ?_
 have hb94:b9≠b4:=fun e=>hn9 (List.mem_map.2 ⟨_,m4',e.symm⟩)
 have hb98:b9≠b8:=fun e=>hn9 (List.mem_map.2 ⟨_,m8,by rw[ho8]; exact e.symm⟩)
 obtain ⟨nm,hnmx⟩:∃ nm:List UInt8,(if f.k=17 then g.nm++[58] else [])=nm:=⟨_,rfl⟩
 have hnl1:nm.length≤49:=by rw[← hnmx]; split<;>simp<;>omega
 simp (disch:=omega) only[push_cast,qE,h4,h7]
 refine lOn Shp.eq (.tail _ m4') rfl ?_
 simp (disch:=omega) only[push_cast,qE,h4,h7]
 refine cutV (PlC wb lo pb op cl M g (bs3++cm++nm) o4 o8 b9 (some ⟨xb,xoff,none⟩) vc v.ls.length i) ?_ ?_
 ·rw[Vc]
  refine sp ?_
  refine cdD (fun h=>?_) (fun h=>?_)
  ·have hci:childN f i=i:=by unfold childN; rw[if_pos h]
   rw[hci] at r2
   have hlt':i < f.sub.length:=by rw[hci] at hg; exact (List.getElem?_eq_some_iff.1 hg).1
   simp (disch:=omega) only[push_cast,qE,h4,h7]
   refine lOn Shp.eq (.tail _ m4') rfl ?_
   simp (disch:=omega) only[push_cast,qE,h4,h7]
   refine ldAggF Shp.eq r2 rfl (out_of (fun p hp=>?_)) ?_
   ·rcases List.mem_cons.1 hp with rfl|hp
    ·exact Nat.lt_of_lt_of_le (Nat.lt_of_lt_of_le q1 hlo) hb9
    ·exact hob p hp
   simp (disch:=omega) only[push_cast,qE,Fld.cells]
   refine sXa 0 rfl Siz.eq rfl rfl ?_
   obtain ⟨o9,ho9⟩:∃ o,o=(qb0 b9 g ga' gc'):=⟨_,rfl⟩
   obtain ⟨L5,hB5,hs5⟩:=hO [o9]
   have hA9:∀ p∈[o9,o8,o4],wb.heap.size≤p.1:=fun p hp=>by
    rcases List.mem_cons.1 hp with rfl|hp
    ·rw[ho9]; exact hb9
    ·rcases List.mem_cons.1 hp with rfl|hp
     ·exact hn4' _ m8
     ·rw[List.mem_singleton.1 hp]; exact hn4' _ m4
   have hM9:∀ p∈[o9]++([o8]++([o4]++M)),wb.heap.size≤p.1:=fun p hp=>by
    rcases List.mem_cons.1 hp with rfl|hp
    ·rw[ho9]; exact hb9
    ·exact hM8 p hp
   have hnd:([o9,o8,o4].map (·.1)).Nodup:=by
    rw[ho9,ho8,ho4]
    simp[hb94,hb98,hb8']
   have hst:∀ {bs':List UInt8} {L':Own},BlO wb 58 pb bs' L' ([o9]++([o8]++([o4]++M)))→Stab wb L' [o9,o8,o4]:=fun hB'=>stab_mem (fun p hp=>hB'.sub p (by
    rcases List.mem_cons.1 hp with rfl|hp
    ·exact mem0
    ·rcases List.mem_cons.1 hp with rfl|hp
     ·exact mem1
     ·rw[List.mem_singleton.1 hp]; exact mem2)) hnd (hB'.new hM9)
   refine sp ?_
   refine freeT [0,1,2,3,4,5] [6] [o9,o8,o4] (by kernel_rfl) mixed (by kernel_rfl) (fun w' hw'=>hst hB5 w' (hs5 w' (by rw[ho9]; exact hw'))) ?_
   simp (disch:=omega) only[push_cast,qE,h0]
   refine lOn Shp.eq (by rw[ho9]; exact mem0) rfl ?_
   simp (disch:=omega) only[push_cast,qE,h0]
   refine addS (m:=[58]) (by simp only[qN,List.length_nil]; omega) ?_
   simp (disch:=omega) only[push_cast,qE,h0]
   refine callV en_46 (callX_weak (L':=L5) (fun w' hw'=>hs5 w' (by rw[ho9]; exact hw')) (callX_own (fun w' hw'=>write_walk wb w' _ (.inr rfl) pb _ (g.nm++[58]) L5 _ hB5 (by simp) (by simp only[qA,qN,List.length_nil]; omega) hw') (fun v' L6 hv6=>?_)))
   obtain ⟨rfl,hB6⟩:=hv6
   refine ⟨rfl,hst hB6,?_⟩
   refine sp ?_
   refine ⟨rfl,rfl,⟨ga',gc',L6,r3,?_,?_,fun w hw=>hw⟩,hB6.sub _ mem1,h0,by rw[ho4]; exact h4,h6,h7,h8,rfl,h19,h20,h21⟩
   ·have e9:o9=(b9,Obj.cells (g.cells ga' gc').toArray 26 (0,0)):=ho9
    rw[← e9]; exact hB6.sub _ mem0
   ·have e9:o9=(b9,Obj.cells (g.cells ga' gc').toArray 26 (0,0)):=ho9
    rw[← e9,← hnmx,if_pos h]; exact hB6
  ·have hci:childN f i=0:=by unfold childN; rw[if_neg h]
   rw[hci] at hg
   obtain rfl:g0=g:=by rw[hg0] at hg; injection hg
   refine sp ?_
   obtain ⟨L5,hB5,hs5⟩:=hO [(qb0 b9 g0 ga gc)]
   refine ⟨rfl,rfl,⟨ga,gc,L5,q3,mem0,?_,hs5⟩,.tail _ m8,h0,by rw[ho4]; exact h4,h6,h7,h8,rfl,h19,h20,h21⟩
   rw[← hnmx,if_neg h,List.append_nil]
   exact hB5
 clear h0 h4 h6 h7 h8 h19 h20 h21 e m4 m8 hn4' hn9 hO m4' hob
 rintro wb e ds L5 ⟨rfl,rfl,⟨ka,kc,L6,k3,k9,hB6,hs6⟩,m8,h0,h4,h6,h7,h8,h9,h19,h20,h21⟩
 rw[ho8] at m8 h8
 have hA9:∀ p∈[(b9,Obj.cells (g.cells ka kc).toArray 26 (0,0)),o8],wb.heap.size≤p.1:=(nC hb9 hA8)
 have hM9:∀ p∈[(b9,Obj.cells (g.cells ka kc).toArray 26 (0,0)),o8]++([o4]++M),wb.heap.size≤p.1:=fun p hp=>(List.mem_append.1 hp).elim (hA9 p) (hM1 p)
 have hl6:(bs3++cm++nm).length≤bs3.length+50:=by simp only[qA]; omega
 have hwx8:=wV_pos x
 simp (disch:=omega) only[push_cast,qE,h0,h9,h8]
 refine lAg Shp.eq k9 rfl rfl ?_
 simp (disch:=omega) only[push_cast,qE,h0,h9,h8]
 refine lAg Shp.eq m8 rfl rfl ?_
 simp (disch:=omega) only[push_cast,qE,h0,h9,h8]
 refine callV en_23 (callX_weak hs6 (callX_own (fun w' hw'=>(hP wb w' lo pb _ L6 _ _ g x ka xa kc xc hl hlo (hok.2 g hgm) hgx (hr.2 x hxm) k3 x3 hB6 hM9 (by omega) hw').mono fun e w2 h=>PrC.drop hA9 h) (fun v' L7 hv7=>?_)))
 obtain ⟨rfl,bs7,hB7,hc7,hn7⟩:=hv7
 simp (disch:=omega) only[push_cast,qE,h0,h4,h6,h19,h20,h21]
 refine ⟨i+1,L7,fun w hw=>hw,⟨rfl,rfl,⟨bs7,hB7,?_,by omega⟩,by omega,h0,h4,h6,h19,h20,?_⟩,by omega⟩
 rotate_left
 ·exact i64_eq (by omega)
 rw[itemsT_take hx]
 have:=(hc3.add (cm++nm)).trans (by rw[← List.append_assoc]; exact hc7)
 unfold itemT
 rw[hg,hcm]
 have he:(match some g with|some g=>if f.k=17 then g.nm++[58] else []|none=>[])=(if f.k=17 then g.nm++[58] else []:List UInt8):=rfl
 by_cases h17:f.k=17
 ·have hci:childN f i=i:=by unfold childN; rw[if_pos h17]
  rw[hci] at hg
  rw[if_pos h17] at hnmx
  simp only[hg,if_pos h17,hnmx]
  simpa [List.append_assoc] using this
 ·rw[if_neg h17] at hnmx
  subst hnmx
  rcases hgi:f.sub[i]? with _|g'<;>simp only[if_neg h17]<;>simpa [List.append_assoc] using this
theorem print_all:∀ d,PrOK d
 | 0=>fun wb w lo pb bs L M ind f v a va c vc hl hlo hok=>hok.elim
 | d+1=>print_step d (print_all d) (plist_step d (print_all d))
end Go.Proofs.YtilejcofleeeiaaGreatDoor
