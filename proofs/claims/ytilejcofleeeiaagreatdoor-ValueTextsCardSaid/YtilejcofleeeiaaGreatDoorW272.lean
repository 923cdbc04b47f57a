/- YtilejcofleeeiaaGreatDoor: walks, part 272: THE ROW: Print of any value, Parse of its text and of any text, places of what is wrong. -/
import Derived.Test.YtilejcofleeeiaaGreatDoorW141
namespace Go.Proofs.YtilejcofleeeiaaGreatDoor
open Go Go.K
open Nat renaming reduceEqDiff → qE
open List renaming mem_append_right → qR, mem_append_left → qL
set_option maxRecDepth 100000
set_option linter.unusedVariables false
set_option linter.unusedSimpArgs false
set_option maxHeartbeats 4000000
def HoldsK (w:World) (K:Own):Prop:=∀ p∈K,w.heap[p.1]?=some p.2
theorem HoldsK.sy {w w':World} {K L:Own} (h:HoldsK w K) (hs:Sy w L w') (hL:∀ p∈L,w.heap.size≤p.1):HoldsK w' K:=fun p hp=>by
 have h1:=h p hp
 have hlt:=(Array.getElem?_eq_some_iff.1 h1).1
 rw[hs.rest p.1 hlt (out_of fun q hq=>Nat.lt_of_lt_of_le hlt (hL q hq))]
 exact h1
theorem HoldsK.of_sy {wb w:World} {K L:Own} (h:Sy wb L w) (hK:∀ p∈K,p∈L):HoldsK w K:=fun p hp=>h.own p.1 p.2 (hK p hp)
def StayOK (n:Nat):Prop:=∀ (w:World) (lo:Nat) (K:Own) (v:Vl) (a va:Option Addr) (c vc:Nat),SizeOf.sizeOf v≤n→HoldsK w K→OwV v K a c→lo≤w.heap.size→VAt w lo v va vc →
 Calls Tryz.prog 9 #[.agg (v.cells a c).toArray,.agg (v.cells va vc).toArray] w (Rets w (Is (.bool true)))
def StaysOK (n:Nat):Prop:=∀ (w:World) (lo:Nat) (K:Own) (v:Vl) (a va:Option Addr) (c vc:Nat),SizeOf.sizeOf v.ls≤n→HoldsK w K→OwV v K a c→lo≤w.heap.size→VAt w lo v va vc →
 Calls Tryz.prog 27 #[.slice a v.ls.length c,.slice va v.ls.length vc] w (Rets w (Is (.bool true)))
theorem KidV.get {i:Nat} {x:Vl}:∀ {ls:List Vl} {K:Own} {cs:List Value},KidV ls K cs→ls[i]?=some x→∃ K1 a c,(∀ p∈K1,p∈K)∧OwV x K1 a c∧(cs.drop (i * 4)).take 4=x.cells a c:=by
 induction i with
 | zero =>
  intro ls K cs h hx
  cases ls with
  | nil=>simp at hx
  | cons v l =>
   rw[KidV] at h
   obtain ⟨K1,K2,a,c,cs',rfl,rfl,h1,h2⟩:=h
   simp only[List.getElem?_cons_zero,Option.some.injEq] at hx
   subst hx
   exact ⟨K1,a,c,fun p hp=>qL _ hp,h1,by simp[Vl.cells]⟩
 | succ i ih =>
  intro ls K cs h hx
  cases ls with
  | nil=>simp at hx
  | cons v l =>
   rw[KidV] at h
   obtain ⟨K1,K2,a,c,cs',rfl,rfl,h1,h2⟩:=h
   obtain ⟨K3,a3,c3,q1,q2,q3⟩:=ih h2 (un hx)
   exact ⟨K3,a3,c3,fun p hp=>qR _ (q1 p hp),q2,by rw[← q3,show (i+1) * 4=4+i * 4 by omega,← List.drop_drop]; simp[Vl.cells]⟩
theorem stay_step (n:Nat) (hS:StaysOK n):StayOK (n+1):=by
 intro w lo K v a va c vc hn hK hO hlo hV
 have hsz:SizeOf.sizeOf v.ls≤n:=by cases v; simp only[Vl.ls,Vl.mk.sizeOf_spec] at hn ⊢; omega
 refine enterT (args:=[.agg (v.cells a c).toArray,.agg (v.cells va vc).toArray]) Tryz.func9 rfl Tryz.ntmps9 (congrArg Array.toList Tryz.results9) (by kernel_rfl) (by simp) (Sy.refl w) ?_
 simp (disch:=omega) only[push_cast,qE,Vl.cells]
 refine newI (fun b2 hb2 hn2=>?_)
 simp (disch:=omega) only[push_cast,qE,Vl.cells]
 refine newI (fun b3 hb3 hn3=>?_)
 simp (disch:=omega) only[push_cast,qE,Vl.cells]
 have hL2:∀ x y:Obj,∀ p∈[(b3,x),(b2,y)],w.heap.size≤p.1:=fun x y p hp=>by
  simp only[List.mem_cons,List.mem_nil_iff,or_false] at hp
  rcases hp with rfl|rfl
  ·exact hb3
  ·exact hb2
 refine lOn Shp.eq mem1 rfl ?_
 refine sp ?_
 refine lOn Shp.eq mem0 rfl ?_
 refine sp ?_
 refine callV en_27 (cIs (fun w' hw'=>hS w' lo K v a va c vc hsz (hK.sy hw' (hL2 _ _)) hO (Nat.le_trans hlo hw'.size) (hV.sy hlo hw' (hL2 _ _))) ?_)
 refine sp ?_
 refine lOn Shp.eq mem1 rfl ?_
 refine sp ?_
 refine lOn Shp.eq mem0 rfl ?_
 simp (disch:=omega) only[push_cast,qE,beq_self_eq_true]
 refine lOn Shp.eq mem1 rfl ?_
 refine sp ?_
 refine lOn Shp.eq mem0 rfl ?_
 simp (disch:=omega) only[push_cast,qE,decide_true]
 refine lOn Shp.eq mem1 rfl ?_
 refine sp ?_
 refine lOn Shp.eq mem0 rfl ?_
 simp (disch:=omega) only[push_cast,qE,decide_true]
 exact finIs (hL2 _ _) rfl
structure StI (w0:World) (v:Vl) (a va:Option Addr) (c vc:Nat) (i:Nat) (wb:World) (e:Env) (ds:List Deferred) (L:Own):Prop where
 hw:wb=w0
 hds:ds=[]
 o:L=[]
 hi:i≤v.ls.length
 h0:e 0=.slice a v.ls.length c
 h1:e 1=.slice va v.ls.length vc
 h5:e 5=i64 i
theorem stays_step (n:Nat) (hS:StayOK n):StaysOK (n+1):=by
 intro w lo K v a va c vc hn hK hO hlo hV
 obtain ⟨o1,o2,b,cs,rest,K',rfl,rfl,hkid,o3,o4,o5⟩:=(OwV_iff _ _ _ _).1 hO
 have hcl:=hkid.len
 have hblk:w.heap[b]?=some (Obj.cells (cs++(marksC++rest)).toArray 29 (0,0)):=hK (b,_) (.head _)
 have hbnd:v.ls.length≤9223372036854775807:=by omega
 refine enterT (args:=[.slice (some ⟨b,0,none⟩) v.ls.length c,.slice va v.ls.length vc]) Tryz.func27 rfl Tryz.ntmps27 (congrArg Array.toList Tryz.results27) (by kernel_rfl) (by simp) (Sy.refl w) ?_
 simp (disch:=omega) only[push_cast,qE,ne_eq,not_true_eq_false,decide_false]
 try
  rw[Vc]
  simp (disch:=omega) only[push_cast,qE,ne_eq,not_true_eq_false,decide_false]
 rw[Vb]
 refine sp ?_
 refine loopW (G:=Nat) (StI w v (some ⟨b,0,none⟩) va c vc) (fun i=>v.ls.length - i) 0 _ (fun w hw=>hw) (by kernel_rfl) ⟨rfl,rfl,rfl,by omega,rfl,rfl,rfl⟩ ?_
 rintro i wb e ds L ⟨rfl,rfl,rfl,hi,h0,h1,h5⟩
 simp (disch:=omega) only[push_cast,qE,h0,h1,h5]
 rw[Vc]
 simp (disch:=omega) only[push_cast,qE,h0,h1,h5]
 refine cdD (fun hlt=>?_) (fun hge=>?_)
 ·obtain ⟨x,hx⟩:∃ x,v.ls[i]?=some x:=⟨_,List.getElem?_eq_getElem (by omega)⟩
  have hszx:SizeOf.sizeOf x≤n:=by
   have h1:=List.sizeOf_lt_of_mem (List.mem_of_getElem? hx)
   omega
  obtain ⟨K1,xa,xc,k1,k2,k3⟩:=hkid.get hx
  obtain ⟨yb,yoff,ya,yc,rfl,y1,y2,y3⟩:=hV.get hx
  have hat:At wb b (i * 4) (x.cells xa xc):=⟨_,_,_,hblk,by
   show (List.drop (i * 4) (cs++(marksC++rest))).take 4=_
   rw[List.drop_append_of_le_length (by omega),List.take_append_of_le_length (by rw[List.length_drop]; omega),k3]⟩
  simp (disch:=omega) only[push_cast,qE,h0,h1,h5]
  rw[Vb]
  simp (disch:=omega) only[push_cast,qE,h0,h1,h5]
  refine drawQT (by kernel_rfl) (by kernel_rfl) mixed (by kernel_rfl) ?_
  simp (disch:=omega) only[push_cast,qE,h0,h1,h5]
  refine ldAggF Shp.eq hat rfl (by simp) ?_
  simp (disch:=omega) only[push_cast,qE,h0,h1,h5,Vl.cells]
  refine ldAggF Shp.eq y2 rfl (by simp) ?_
  simp (disch:=omega) only[push_cast,qE,h0,h1,h5,Vl.cells]
  refine qcallV en_9 (qcallX_is (.bool true) (fun w' hw'=>hS w' lo K1 x xa ya xc yc hszx (HoldsK.sy (fun p hp=>hK p (.tail _ (k1 p hp))) hw' (by simp)) k2 (Nat.le_trans hlo hw'.size) (y3.sy hlo hw' (by simp))) ?_)
  simp (disch:=omega) only[push_cast,qE,h0,h1,h5]
  try
   rw[Vc]
   simp (disch:=omega) only[push_cast,qE,h0,h1,h5]
  try
   refine cdB (fun h=>by cases h) (fun _=>?_)
   simp (disch:=omega) only[push_cast,qE,h0,h1,h5]
  exact ⟨i+1,_,fun w hw=>hw,⟨rfl,rfl,rfl,by omega,h0,h1,uu⟩,by omega⟩
 ·obtain rfl:i=v.ls.length:=by omega
  simp (disch:=omega) only[push_cast,qE,h0,h1,h5]
  have m7:At wb b (v.ls.length * 4+1) [i64 (-7)]:=⟨_,_,_,hblk,by
   show (List.drop (v.ls.length * 4+1) (cs++(marksC++rest))).take 1=_
   rw[← hcl,← List.drop_drop,List.drop_left]; rfl⟩
  have m8:At wb b (v.ls.length * 4+5) [i64 (-8)]:=⟨_,_,_,hblk,by
   show (List.drop (v.ls.length * 4+5) (cs++(marksC++rest))).take 1=_
   rw[← hcl,← List.drop_drop,List.drop_left]; rfl⟩
  refine ldF Shp.eq m7 (by simp) ?_
  simp (disch:=omega) only[push_cast,qE,h0,h1,h5]
  refine gT rfl (fun _=>?_) (fun h=>absurd trivial h)
  simp (disch:=omega) only[push_cast,qE,h0,h1,h5]
  refine ldF Shp.eq (v:=i64 (-8)) (by rw[show ((v.ls.length:Int)+1).toNat * 4+1=v.ls.length * 4+5 by omega]; exact m8) (by simp) ?_
  simp (disch:=omega) only[push_cast,qE,h0,h1,h5]
  exact finIs (by simp) rfl
theorem stay_all:∀ n,StayOK n∧StaysOK n:=by
 intro n
 induction n with
 | zero =>
  refine ⟨fun w lo K v a va c vc hn=>?_,fun w lo K v a va c vc hn=>?_⟩
  ·cases v; simp at hn
  ·cases hl:v.ls<;>rw[hl] at hn<;>simp at hn
 | succ n ih=>exact ⟨stay_step n ih.2,stays_step n ih.1⟩
theorem stays_walk (w:World) (lo:Nat) (K:Own) (v:Vl) (a va:Option Addr) (c vc:Nat) (hK:HoldsK w K) (hO:OwV v K a c) (hlo:lo≤w.heap.size) (hV:VAt w lo v va vc) :
 Calls Tryz.prog 9 #[.agg (v.cells a c).toArray,.agg (v.cells va vc).toArray] w (Rets w (Is (.bool true))):=(stay_all _).1 w lo K v a va c vc (Nat.le_refl _) hK hO hlo hV
theorem VAt.weaken {w:World} {lo lo':Nat} {v:Vl} {a:Option Addr} {c:Nat} (h:VAt w lo v a c) (hle:lo≤lo'):VAt w lo' v a c:=⟨h.hr.weaken hle,h.hc,h.hc2,h.ht,h.hn⟩
theorem FlAt.weaken {w:World} {lo lo':Nat} {f:Fld} {a:Option Addr} {c:Nat} (h:FlAt w lo f a c) (hle:lo≤lo'):FlAt w lo' f a c:=⟨h.hr.weaken hle,h.hc,h.hc2⟩
theorem forgetU {v:Value} {E:Env} {d:Nat} {want:Bool} {A B:Env→Prop} (F:Env→Prop) (hF:F E) (h:∀ e,F e→GuardX v e d want (tag A) (tag B)):GuardX v E d want (tag A) (tag B):=h E hF
theorem nwC {n b:Nat} {x:Obj} {L:Own} (h:n≤b) (hL:∀ p∈L,n≤p.1):∀ p∈(b,x)::L,n≤p.1:=fun p hp=>(List.mem_cons.1 hp).elim (fun e=>by rw[e]; exact h) (hL p)
theorem nwA {n:Nat} {M L:Own} (h:∀ p∈M,n≤p.1) (hL:∀ p∈L,n≤p.1):∀ p∈M++L,n≤p.1:=fun p hp=>(List.mem_append.1 hp).elim (h p) (hL p)
theorem wL_len16:∀ (l:List Vl),l.length * 16≤wL l
 | []=>by rw[wL]; simp
 | v::l=>by
  have:=wL_len16 l
  rw[wL,wV_eq,List.length_cons]
  omega
mutual
theorem ZeV.rows:∀ (v:Vl) {its:List Rw} {a:Option Addr} {c:Nat},ZeV v its a c→∀ x∈its,x.OK∧x.n * 16≤wV v
 | .mk nu num tx ls,its,a,c,h,x,hx=>by
  rw[ZeV] at h
  obtain ⟨_,_,y,its',rfl,h1,h2,_,_,h5⟩:=h
  have hl:=wL_len16 ls
  rw[wV]
  rcases List.mem_cons.1 hx with rfl|hx
  ·exact ⟨h1,by omega⟩
  ·have:=ZeK.rows ls h5 x hx
   exact ⟨this.1,by omega⟩
theorem ZeK.rows:∀ (ls:List Vl) {its:List Rw} {cs:List Value},ZeK ls its cs→∀ x∈its,x.OK∧x.n * 16≤wL ls
 | [],its,cs,h,x,hx=>by
  rw[ZeK] at h
  rw[h.1] at hx
  cases hx
 | v::l,its,cs,h,x,hx=>by
  rw[ZeK] at h
  obtain ⟨its1,its2,a,c,cs',rfl,rfl,h1,h2⟩:=h
  rw[wL]
  rcases List.mem_append.1 hx with hx|hx
  ·have:=ZeV.rows v h1 x hx
   exact ⟨this.1,by omega⟩
  ·have:=ZeK.rows l h2 x hx
   exact ⟨this.1,by omega⟩
end
theorem ZeV.pos {v:Vl} {its:List Rw} {a:Option Addr} {c:Nat} (h:ZeV v its a c):0 < its.length:=by
 obtain ⟨_,_,x,its',rfl,_⟩:=(ZeV_iff _ _ _ _).1 h
 simp
theorem fits_wV {f:Fld} {v:Vl} (h:fitsP f v=0):wV v≤4194304:=by
 unfold fitsP at h
 split at h
 ·split at h
  ·rename_i h2
   unfold goodD at h2
   simp only[Bool.and_eq_true,decide_eq_true_eq] at h2
   omega
  ·cases h
 ·cases h
theorem parse_wV (f:Fld) (s:List UInt8):wV (parseVP f s).1≤4194304:=by
 by_cases h:(parseVP f s).2.1=0
 ·obtain ⟨x,e,q,hx⟩:∃ x e q,parseVP f s=(x,e,q):=⟨_,_,_,rfl⟩
  rw[hx] at h ⊢
  obtain rfl:e=0:=h
  exact fits_wV (parse_print hx).2
 ·have h0:wV (.mk false 0 [] [])≤4194304:=by simp[wV,wL]
  revert h
  unfold parseVP
  split
  ·intro _; exact h0
  split
  ·intro _; exact h0
  split
  ·intro _; exact h0
  split
  ·intro _; exact h0
  ·intro h; exact absurd rfl h
theorem printP_len (f:Fld) (v:Vl):(printP f v).1.length≤65536:=by
 unfold printP
 split
 ·simp
 ·split
  ·simp
  ·rename_i h; simp only; omega
abbrev fNa:Fld:=.mk [97] false 11 0 0 0 []
abbrev vNb:Vl:=.mk false 4609434218613702656 [] []
theorem show_Nb:showV 64 fNa vNb=[51,112,45,49]:=by
 rw[showV]
 rw[if_neg (by decide),if_neg (by decide),if_neg (by decide),if_neg (by decide),if_neg (by decide),if_neg (by decide)]
 show numT 11 4609434218613702656=_
 decide +kernel
theorem fits_Nb:fitsP fNa vNb=0:=by
 unfold fitsP
 rw[show mayD fNa=true by decide,if_pos rfl,if_pos]
 unfold goodD
 rw[fitD]
 simp[Vl.ls,Vl.nu,Vl.tx,Vl.num,Fld.k,wV,wL]
theorem print_Nb:printP fNa vNb=([51,112,45,49],0):=by
 unfold printP
 rw[fits_Nb,if_neg (by decide),show_Nb,if_neg (by decide)]
abbrev oF3 (b:Nat) (f:Fld) (a:Option Addr) (c:Nat):Nat×Obj:=(qb0 b f a c)
abbrev oVb (b:Nat) (v:Vl) (a:Option Addr) (c:Nat):Nat×Obj:=(qb3 b v.nu v.num v.tx a v.ls.length c)
structure VxA (w0:World) (o3 o4:Nat×Obj) (s pt:List UInt8) (pe:Int) (wb:World) (e:Env) (ds:List Deferred) (L:Own):Prop where
 hw:wb=w0
 hds:ds=[]
 h2:e 2=str s
 h3:e 3=.pointer (some ⟨o3.1,0,none⟩)
 h4:e 4=.pointer (some ⟨o4.1,0,none⟩)
 h7:e 7=str pt
 h8:e 8=i64 pe
 m3:o3∈L
 m4:o4∈L
 hL:∀ p∈L,w0.heap.size≤p.1
structure VxB (w0:World) (o3:Nat×Obj) (b12:Nat) (x12:Obj) (M1 L1:Own) (s pt:List UInt8) (wb:World) (e:Env) (ds:List Deferred) (L:Own):Prop where
 hw:wb=w0
 hds:ds=[]
 h2:e 2=str s
 h3:e 3=.pointer (some ⟨o3.1,0,none⟩)
 h7:e 7=str pt
 h12:e 12=.pointer (some ⟨b12,0,none⟩)
 o:L=(b12,x12)::(M1++L1)
structure VxC (w0:World) (o3:Nat×Obj) (pt:List UInt8) (wb:World) (e:Env) (ds:List Deferred) (L:Own):Prop where
 hw:wb=w0
 hds:ds=[]
 h2:∃ s:List UInt8,s.length≤9223372036854775807∧e 2=str s
 h3:e 3=.pointer (some ⟨o3.1,0,none⟩)
 h7:e 7=str pt
 m3:o3∈L
 hL:∀ p∈L,w0.heap.size≤p.1
structure VxI (w0:World) (o3:Nat×Obj) (pt:List UInt8) (i:Nat) (wb:World) (e:Env) (ds:List Deferred) (L:Own):Prop where
 hw:wb=w0
 hds:ds=[]
 hi:i≤2
 h2:∃ s:List UInt8,s.length≤9223372036854775807∧e 2=str s
 h3:e 3=.pointer (some ⟨o3.1,0,none⟩)
 h7:e 7=str pt
 h18:e 18=i64 i
 m3:o3∈L
 hL:∀ p∈L,w0.heap.size≤p.1
theorem valueTexts_walk (w:World) (hs:SaysAt w) (hTb:TabsAt w) (hl:LibV w) (lo:Nat) (hlo:lo≤w.heap.size) (f:Fld) (v:Vl) (a va:Option Addr) (c vc:Nat) (hA:FlAt w lo f a c) (hfn:f.nm.length≤9223372036854775807) (hV:VAt w lo v va vc) (s:List UInt8) (hsl:s.length≤9223372036854775807) :
 Calls Tryz.prog 3 #[.agg (f.cells a c).toArray,.agg (v.cells va vc).toArray,str s] w (Rets w (Is (.bool true))):=by
 obtain ⟨pt,pe,hpr⟩:∃ pt pe,printP f v=(pt,pe):=⟨_,_,rfl⟩
 have hptl:pt.length≤65536:=by have:=printP_len f v; rw[hpr] at this; exact this
 refine enterT (args:=[.agg (f.cells a c).toArray,.agg (v.cells va vc).toArray,str s]) Tryz.func3 rfl Tryz.ntmps3 (congrArg Array.toList Tryz.results3) (by kernel_rfl) (by simp) (Sy.refl w) ?_
 simp (disch:=omega) only[push_cast,qE,Fld.cells,Vl.cells]
 refine newI (fun b3 hb3 hn3=>?_)
 simp (disch:=omega) only[push_cast,qE,Fld.cells,Vl.cells]
 refine newI (fun b4 hb4 hn4=>?_)
 simp (disch:=omega) only[push_cast,qE,Fld.cells,Vl.cells]
 have hL:∀ x y:Obj,∀ p∈[(b4,x),(b3,y)],w.heap.size≤p.1:=fun x y=>nwC hb4 (nwC hb3 (by simp))
 refine lAg Shp.eq mem1 rfl rfl ?_
 refine sp ?_
 refine lAg Shp.eq mem0 rfl rfl ?_
 refine sp ?_
 refine callV en_5 (cIs (v:=.tuple #[str pt,i64 pe]) (fun w' hw'=>by
  have h:=printR_walk w' lo (Nat.le_trans hlo hw'.size) f v a va c vc (hA.sy hlo hw' (hL _ _)) hfn (hV.sy hlo hw' (hL _ _))
  rw[hpr] at h
  exact h) ?_)
 refine sp ?_
 refine lAg Shp.eq mem0 rfl rfl ?_
 refine sp ?_
 refine callV en_6 (cIs (fun w' hw'=>heavy_walk w' lo (Nat.le_trans hlo hw'.size) v va vc (hV.sy hlo hw' (hL _ _))) ?_)
 refine sp ?_
 rw[Vc]
 refine sp ?_
 rcases hhv:heavyD v with _|_
 rotate_left
 ·refine cdB (fun _=>?_) (fun h=>by cases h)
  refine sp ?_
  refine lAg Shp.eq mem1 rfl rfl ?_
  refine sp ?_
  refine lAg Shp.eq mem0 rfl rfl ?_
  refine sp ?_
  refine callV en_7 (cIs (v:=.tuple #[str pt,i64 pe]) (fun w' hw'=>by
   have h:=print_walk w' (hs.mono hw' (hL _ _)) lo (hTb.mono hw' (hL _ _)) (hl.mono hw' (hL _ _)) (Nat.le_trans hlo hw'.size) f v a va c vc (hA.sy hlo hw' (hL _ _)) hfn (hV.sy hlo hw' (hL _ _))
   rw[hpr] at h
   exact h) ?_)
  refine sp ?_
  refine gT rfl (fun _=>?_) (fun h=>absurd (by simp) h)
  refine sp ?_
  exact finIs (hL _ _) (by simp)
 refine cdB (b:=false) (fun h=>by cases h) (fun _=>?_)
 have wv:wV v≤2147483647:=by have:=of_decide_eq_false hhv; omega
 obtain ⟨o3,ho3⟩:∃ o,o=oF3 b3 f a c:=⟨_,rfl⟩
 obtain ⟨o4,ho4⟩:∃ o,o=oVb b4 v va vc:=⟨_,rfl⟩
 refine cutV (VxA w o3 o4 s pt pe) ?_ ?_
 ·refine sp ?_
  exact ⟨rfl,rfl,rfl,by rw[ho3]; rfl,by rw[ho4]; rfl,rfl,rfl,by rw[ho3]; simp,by rw[ho4]; simp,hL _ _⟩
 clear hL hn3 hn4
 rintro wb e ds L ⟨rfl,rfl,h2,h3,h4,h7,h8,m3,m4,hL⟩
 have m3':=m3
 have m4':=m4
 rw[ho3] at m3' h3
 rw[ho4] at m4' h4
 simp (disch:=omega) only[push_cast,qE,h4]
 refine lAg Shp.eq m4' rfl rfl ?_
 simp (disch:=omega) only[push_cast,qE,h3,h4]
 refine callV en_8 (cNw (fun w' hw'=>twin_walk w' lo v va vc (Nat.le_trans hlo hw'.size) (hV.sy hlo hw' hL) wv) (fun u M1 hM1 hMn1 hu=>?_))
 obtain ⟨ta,tc,rfl,hO1⟩:=hu
 simp (disch:=omega) only[push_cast,qE,Vl.cells]
 refine newI (fun b12 hb12 hn12=>?_)
 refine sp ?_
 refine sXa 0 rfl Siz.eq rfl rfl ?_
 simp (disch:=omega) only[push_cast,qE,h3]
 have hL12:∀ x:Obj,∀ p∈(b12,x)::(M1++L),wb.heap.size≤p.1:=fun x=>nwC hb12 (nwA hM1 hL)
 refine lAg Shp.eq (.tail _ (qR _ m3')) rfl rfl ?_
 simp (disch:=omega) only[push_cast,qE,h3]
 refine lAg Shp.eq mem0 rfl rfl ?_
 simp (disch:=omega) only[push_cast,qE,h3]
 refine callV en_7 (cIs (v:=.tuple #[str pt,i64 pe]) (fun w' hw'=>by
  have h:=print_walk w' (hs.mono hw' (hL12 _)) w'.heap.size (hTb.mono hw' (hL12 _)) (hl.mono hw' (hL12 _)) (Nat.le_refl _) f v a ta c tc ((hA.sy hlo hw' (hL12 _)).weaken (Nat.le_trans hlo hw'.size)) hfn (OwV.at_ hw' v hO1 (fun p hp=>.tail _ (qL _ hp)))
  rw[hpr] at h
  exact h) ?_)
 simp (disch:=omega) only[push_cast,qE,h3,h4]
 refine lAg Shp.eq mem0 rfl rfl ?_
 simp (disch:=omega) only[push_cast,qE,h3,h4]
 refine lAg Shp.eq (.tail _ (qR _ m4')) rfl rfl ?_
 simp (disch:=omega) only[push_cast,qE,h3,h4]
 refine callV en_9 (cIs (fun w' hw'=>stays_walk w' w'.heap.size M1 v ta va tc vc (HoldsK.of_sy hw' (fun p hp=>.tail _ (qL _ hp))) hO1 (Nat.le_refl _) ((hV.sy hlo hw' (hL12 _)).weaken (Nat.le_trans hlo hw'.size))) ?_)
 simp (disch:=omega) only[push_cast,qE,h7,h8]
 refine gF rfl (fun _=>?_) (fun h=>absurd rfl h)
 simp (disch:=omega) only[push_cast,qE,h7,h8]
 refine gF rfl (fun _=>?_) (fun h=>absurd rfl h)
 simp (disch:=omega) only[push_cast,qE,h7,h8,Bool.not_true]
 rw[Vc]
 refine cdB (b:=false) (fun h=>absurd h (by decide)) (fun _=>?_)
 refine cutV (VxB wb o3 b12 (oVb b12 v ta tc).2 M1 L s pt) ?_ ?_
 ·simp (disch:=omega) only[push_cast,qE,h2,h3,h7]
  exact ⟨rfl,rfl,h2,by rw[ho3]; exact h3,h7,rfl,rfl⟩
 clear h2 h3 h4 h7 h8 e m3' m4' m4
 rintro wb e ds L0 ⟨rfl,rfl,h2,h3,h7,h12,rfl⟩
 have m3':=m3
 rw[ho3] at m3' h3
 simp (disch:=omega) only[push_cast,qE,h12]
 refine lOn Shp.eq mem0 rfl ?_
 simp (disch:=omega) only[push_cast,qE,h12]
 refine callV en_10 (callX_base (fun w' hw'=>turn_walk wb w' v M1 ((b12,(oVb b12 v ta tc).2)::L) ta tc (OwV.tr v hO1) (hw'.perm List.perm_middle.symm) (nwA hM1 (nwC hb12 hL))) ?_)
 rintro e' w' ⟨rfl,K1,tr1,q2,hK1⟩
 refine ⟨_,_,rfl,q2,?_⟩
 clear q2
 obtain ⟨x1,hx1⟩:∃ x1:Vl,x1=.mk v.nu v.num v.tx (turnL v.ls):=⟨_,rfl⟩
 have hce:x1.cells ta tc=[.bool v.nu,i64 v.num,str v.tx,.slice ta v.ls.length tc]:=by rw[hx1]; simp[Vl.cells,Vl.nu,Vl.num,Vl.tx,Vl.ls,turnL_len]
 rw[← hx1] at tr1
 have hL1:∀ p∈K1++((b12,(oVb b12 v ta tc).2)::L),wb.heap.size≤p.1:=nwA hK1 (nwC hb12 hL)
 obtain ⟨qt,qe,hqr⟩:∃ qt qe,printP f x1=(qt,qe):=⟨_,_,rfl⟩
 simp (disch:=omega) only[push_cast,qE,h3,h12]
 refine lAg Shp.eq (qR _ (.tail _ m3')) rfl rfl ?_
 simp (disch:=omega) only[push_cast,qE,h3,h12]
 refine lAg Shp.eq (qR _ (.head _)) rfl rfl ?_
 simp (disch:=omega) only[push_cast,qE,h3,h12]
 refine callV en_5 (cIs (v:=.tuple #[str qt,i64 qe]) (fun w' hw'=>by
  have h:=printR_walk w' w'.heap.size (Nat.le_refl _) f x1 a ta c tc ((hA.sy hlo hw' hL1).weaken (Nat.le_trans hlo hw'.size)) hfn (TrV.at_ hw' x1 tr1 (fun p hp=>qL _ hp))
  rw[hqr,hce] at h
  exact h) ?_)
 simp (disch:=omega) only[push_cast,qE,h3,h12]
 refine lAg Shp.eq (qR _ (.tail _ m3')) rfl rfl ?_
 simp (disch:=omega) only[push_cast,qE,h3,h12]
 refine lAg Shp.eq (qR _ (.head _)) rfl rfl ?_
 simp (disch:=omega) only[push_cast,qE,h3,h12]
 refine callV en_7 (cIs (v:=.tuple #[str qt,i64 qe]) (fun w' hw'=>by
  have h:=print_walk w' (hs.mono hw' hL1) w'.heap.size (hTb.mono hw' hL1) (hl.mono hw' hL1) (Nat.le_refl _) f x1 a ta c tc ((hA.sy hlo hw' hL1).weaken (Nat.le_trans hlo hw'.size)) hfn (TrV.at_ hw' x1 tr1 (fun p hp=>qL _ hp))
  rw[hqr,hce] at h
  exact h) ?_)
 simp (disch:=omega) only[push_cast,qE,h3,h12]
 refine gF rfl (fun _=>?_) (fun h=>absurd rfl h)
 simp (disch:=omega) only[push_cast,qE,h3,h12]
 rw[Vc]
 simp (disch:=omega) only[push_cast,qE,h3,h12]
 refine cdD (fun h=>absurd rfl h) (fun _=>?_)
 refine cutV (VxC wb o3 pt) ?_ ?_
 ·simp (disch:=omega) only[push_cast,qE,h2,h3,h7]
  exact ⟨rfl,rfl,⟨s,hsl,h2⟩,by rw[ho3]; exact h3,h7,qR _ (.tail _ m3),hL1⟩
 clear h2 h3 h7 h12 e m3' m3 tr1 hce hx1 hqr hL1 hO1 hM1 hMn1 hn12 hK1 hL12 hL
 rintro wb e ds L0 ⟨rfl,rfl,h2,h3,h7,m3,hL⟩
 refine sp ?_
 rw[Vb]
 refine sp ?_
 refine loopW (G:=Nat) (VxI wb o3 pt) (fun i=>2 - i) 0 _ (fun w hw=>hw) (by kernel_rfl) ⟨rfl,rfl,by omega,h2,h3,h7,rfl,m3,hL⟩ ?_
 clear h2 h3 h7 m3 hL e
 rintro i wb e ds L ⟨rfl,rfl,hi,h2,h3,h7,h18,m3,hL⟩
 have m3':=m3
 rw[ho3] at m3' h3
 simp (disch:=omega) only[push_cast,qE,h18]
 rw[Vc]
 simp (disch:=omega) only[push_cast,qE,h18]
 refine cdD (fun hlt=>?_) (fun hge=>?_)
 rotate_left
 ·refine sp ?_
  refine callV en_7 (cIs (v:=.tuple #[str [51,112,45,49],i64 0]) (fun w' hw'=>by
   have h:=print_walk w' (hs.mono hw' hL) w'.heap.size (hTb.mono hw' hL) (hl.mono hw' hL) (Nat.le_refl _) fNa vNb none none 0 0 ⟨.nil _,Nat.le_refl _,by omega⟩ (by simp[Fld.nm]) ⟨.nil _,Nat.le_refl _,by omega,by simp[Vl.tx],by simp[Vl.num]⟩
   rw[print_Nb] at h
   exact h) ?_)
  refine sp ?_
  refine gT rfl (fun _=>?_) (fun h=>absurd (by simp) h)
  refine sp ?_
  exact finIs hL (by simp)
 refine sp ?_
 rw[Vb]
 simp (disch:=omega) only[push_cast,qE,h18]
 refine cutV (VxI wb o3 pt i) ?_ ?_
 ·rw[Vc]
  simp (disch:=omega) only[push_cast,qE,h18]
  refine cdD (fun h1=>?_) (fun h1=>?_)
  ·simp (disch:=omega) only[push_cast,qE,h7]
   exact ⟨rfl,rfl,hi,⟨pt,by omega,rfl⟩,by rw[ho3]; exact h3,h7,h18,m3,hL⟩
  ·refine sp ?_
   exact ⟨rfl,rfl,hi,h2,by rw[ho3]; exact h3,h7,h18,m3,hL⟩
 clear h2 h3 h7 h18 m3' m3 hL e
 rintro wb e ds L ⟨rfl,rfl,-,h2,h3,h7,h18,m3,hL⟩
 clear hsl s
 obtain ⟨s,hsl,h2⟩:=h2
 have m3':=m3
 rw[ho3] at m3' h3
 obtain ⟨x,g,at_,hpx⟩:∃ x g at_,parseVP f s=(x,g,at_):=⟨_,_,_,rfl⟩
 have hwx:wV x≤4194304:=by have h:=parse_wV f s; rw[hpx] at h; exact h
 simp (disch:=omega) only[push_cast,qE,h2,h3]
 refine lAg Shp.eq m3' rfl rfl ?_
 simp (disch:=omega) only[push_cast,qE,h2,h3]
 refine callV en_11 (cNw (fun w' hw'=>parseRef_walk w' lo (Nat.le_trans hlo hw'.size) f a c (hA.sy hlo hw' hL) hfn s hsl) (fun u1 M1 hM1 hMn1 hu=>?_))
 rw[hpx] at hu
 obtain ⟨itx,xa,xc,hZx,rfl,rfl⟩:=hu
 replace hZx:ZeV x itx xa xc:=hZx
 simp (disch:=omega) only[push_cast,qE,h2,h3,Vl.cells]
 refine newI (fun b19 hb19 hn19=>?_)
 simp (disch:=omega) only[push_cast,qE,h2,h3]
 refine sXa 0 rfl Siz.eq rfl rfl ?_
 simp (disch:=omega) only[push_cast,qE,h2,h3]
 have hL1:∀ y:Obj,∀ p∈(b19,y)::(ownR itx++L),wb.heap.size≤p.1:=fun y=>nwC hb19 (nwA hM1 hL)
 refine lAg Shp.eq (.tail _ (qR _ m3')) rfl rfl ?_
 simp (disch:=omega) only[push_cast,qE,h2,h3]
 refine callV en_12 (cNw (fun w' hw'=>parseV_walk w' (hs.mono hw' (hL1 _)) lo (hTb.mono hw' (hL1 _)) (hl.mono hw' (hL1 _)) (Nat.le_trans hlo hw'.size) f a c (hA.sy hlo hw' (hL1 _)) hfn s hsl) (fun u2 M2 hM2 hMn2 hu=>?_))
 rw[hpx] at hu
 obtain ⟨ity,ya,yc,hZy,rfl,rfl⟩:=hu
 replace hZy:ZeV x ity ya yc:=hZy
 simp (disch:=omega) only[push_cast,qE,h2,h3,Vl.cells]
 refine newI (fun b22 hb22 hn22=>?_)
 simp (disch:=omega) only[push_cast,qE,h2,h3]
 refine sXa 0 rfl Siz.eq rfl rfl ?_
 simp (disch:=omega) only[push_cast,qE,h2,h3]
 have hL2:∀ y z:Obj,∀ p∈(b22,z)::(ownR ity++((b19,y)::(ownR itx++L))),wb.heap.size≤p.1:=fun y z=>nwC hb22 (nwA hM2 (hL1 y))
 refine lAg Shp.eq (.tail _ (qR _ (.tail _ (qR _ m3')))) rfl rfl ?_
 simp (disch:=omega) only[push_cast,qE,h2,h3]
 refine callV en_12 (cNw (fun w' hw'=>parseV_walk w' (hs.mono hw' (hL2 _ _)) lo (hTb.mono hw' (hL2 _ _)) (hl.mono hw' (hL2 _ _)) (Nat.le_trans hlo hw'.size) f a c (hA.sy hlo hw' (hL2 _ _)) hfn s hsl) (fun u3 M3 hM3 hMn3 hu=>?_))
 rw[hpx] at hu
 obtain ⟨itz,za,zc,hZz,rfl,rfl⟩:=hu
 replace hZz:ZeV x itz za zc:=hZz
 simp (disch:=omega) only[push_cast,qE,h2,h3,Vl.cells]
 refine newI (fun b25 hb25 hn25=>?_)
 simp (disch:=omega) only[push_cast,qE,h2,h3]
 refine sXa 0 rfl Siz.eq rfl rfl ?_
 simp (disch:=omega) only[push_cast,qE,h2,h3]
 have hL3:∀ y z u:Obj,∀ p∈(b25,u)::(ownR itz++((b22,z)::(ownR ity++((b19,y)::(ownR itx++L))))),wb.heap.size≤p.1:=fun y z u=>nwC hb25 (nwA hM3 (hL2 y z))
 have kS:=fun (L:Own) (w':World) (hw':Sy wb L w') (its1 its2:List Rw) (a1 a2:Option Addr) (c1 c2:Nat) (hZ1:ZeV x its1 a1 c1) (hZ2:ZeV x its2 a2 c2) (h1:∀ p∈ownR its1,p∈L) (h2:∀ p∈ownR its2,p∈L)=>sameR_all _ w' w'.heap.size x x a1 a2 c1 c2 (Nat.le_refl _) (Nat.le_refl _) (TrV.at_ hw' _ (ZeV.tr _ hZ1) h1) (TrV.at_ hw' _ (ZeV.tr _ hZ2) h2)
 have hsame:sameV x x=true:=(sameV_iff _ _).2 rfl
 refine lAg Shp.eq (.tail _ (qR _ (.tail _ (qR _ (.head _))))) rfl rfl ?_
 simp (maxSteps:=1000000) (disch:=omega) only[push_cast,qE,h2,h3]
 refine lAg Shp.eq (.tail _ (qR _ (.head _))) rfl rfl ?_
 simp (maxSteps:=1000000) (disch:=omega) only[push_cast,qE,h2,h3]
 refine callV en_13 (cIs (v:=.bool true) (fun w' hw'=>by
  have h:=kS _ w' hw' itx ity xa ya xc yc hZx hZy (fun p hp=>.tail _ (qR _ (.tail _ (qR _ (.tail _ (qL _ hp)))))) (fun p hp=>.tail _ (qR _ (.tail _ (qL _ hp))))
  rw[hsame] at h
  exact h) ?_)
 simp (maxSteps:=1000000) (disch:=omega) only[push_cast,qE,h2,h3]
 refine lAg Shp.eq (.tail _ (qR _ (.tail _ (qR _ (.head _))))) rfl rfl ?_
 simp (maxSteps:=1000000) (disch:=omega) only[push_cast,qE,h2,h3]
 refine lAg Shp.eq mem0 rfl rfl ?_
 simp (maxSteps:=1000000) (disch:=omega) only[push_cast,qE,h2,h3]
 refine callV en_13 (cIs (v:=.bool true) (fun w' hw'=>by
  have h:=kS _ w' hw' itx itz xa za xc zc hZx hZz (fun p hp=>.tail _ (qR _ (.tail _ (qR _ (.tail _ (qL _ hp)))))) (fun p hp=>.tail _ (qL _ hp))
  rw[hsame] at h
  exact h) ?_)
 simp (maxSteps:=1000000) (disch:=omega) only[push_cast,qE,h2,h3,Bool.not_true]
 refine forgetU (fun e=>e 2=str s∧e 3=.pointer (some ⟨b3,0,none⟩)∧e 7=str pt∧e 18=i64 i∧e 19=.pointer (some ⟨b19,0,none⟩)∧e 20=i64 g∧e 21=i64 at_∧e 22=.pointer (some ⟨b22,0,none⟩)∧e 23=i64 g∧e 24=i64 at_∧e 25=.pointer (some ⟨b25,0,none⟩)∧e 26=i64 g∧e 27=i64 at_∧e 145=.bool (decide (g≠g))) ⟨h2,h3,h7,h18,rfl,rfl,rfl,rfl,rfl,rfl,rfl,rfl,rfl,rfl⟩ ?_
 clear h2 h3 h7 h18 e
 rintro e ⟨h2,h3,h7,h18,h19,h20,h21,h22,h23,h24,h25,h26,h27,h145⟩
 refine gF h145 (fun _=>?_) (fun h=>absurd rfl h)
 simp (disch:=omega) only[push_cast,qE,h20,h21,h23,h24,h26,h27]
 refine gF rfl (fun _=>?_) (fun h=>absurd rfl h)
 simp (disch:=omega) only[push_cast,qE,h20,h21,h23,h24,h26,h27]
 refine gF rfl (fun _=>?_) (fun h=>absurd rfl h)
 simp (disch:=omega) only[push_cast,qE,h20,h21,h23,h24,h26,h27]
 rw[Vc]
 refine sp ?_
 refine cdD (fun h=>absurd rfl h) (fun _=>?_)
 refine sp ?_
 refine newI (fun b29 hb29 hn29=>?_)
 simp (disch:=omega) only[push_cast,qE,h22]
 have hnx:=ZeV.count _ hZx
 have hny:=ZeV.count _ hZy
 have hnz:=ZeV.count _ hZz
 refine lAg Shp.eq (.tail _ (.tail _ (qR _ (.head _)))) rfl rfl ?_
 simp (disch:=omega) only[push_cast,qE,h22]
 refine callV en_14 (callX_base (fun w' hw'=>bookValue_walk wb w' b29 (.slice none 0 0) [] (oVb b25 x za zc::(ownR itz++(oVb b22 x ya yc::(ownR ity++(oVb b19 x xa xc::(ownR itx++L)))))) [] x ity ya yc hZy ⟨rfl,.inl ⟨rfl,rfl,rfl⟩⟩ (fun p hp=>.tail _ (qR _ (.tail _ (qL _ hp)))) (hL3 _ _ _) hb29 (by simp only[List.length_nil]; omega) hw') ?_)
 rintro e' w' ⟨rfl,va1,R1,hR1,q1⟩
 refine ⟨_,_,rfl,q1,?_⟩
 clear q1
 rw[List.nil_append] at hR1
 simp (disch:=omega) only[push_cast,qE,h25,BkO]
 refine lAg Shp.eq (.tail _ (qR _ (.head _))) rfl rfl ?_
 simp (disch:=omega) only[push_cast,qE,h25,BkO]
 refine callV en_14 (callX_base (fun w' hw'=>bookValue_walk wb w' b29 va1 R1 (oVb b25 x za zc::(ownR itz++(oVb b22 x ya yc::(ownR ity++(oVb b19 x xa xc::(ownR itx++L)))))) (ity.map Rw.way) x itz za zc hZz hR1 (fun p hp=>.tail _ (qL _ hp)) (hL3 _ _ _) hb29 (by simp only[List.length_map]; omega) hw') ?_)
 rintro e' w' ⟨rfl,va2,R2,hR2,q1⟩
 refine ⟨_,_,rfl,q1,?_⟩
 clear q1
 rw[← List.map_append] at hR2
 have hpos:0 < ((ity++itz).map Rw.way).length:=by
  have:=hZy.pos
  simp only[List.length_map,List.length_append]; omega
 have hnR2:∀ p∈R2,wb.heap.size≤p.1:=RowO.new hR2 (by simp)
 (refine xe3 (RowO.get hR2 hpos) (fun rb rcap rcs hz=>?_); have ez:=hz.1; subst ez; have ez:=hz.2.1; subst ez; have hrcs:=hz.2.2; clear hz)
 rw[List.length_map,Nat.mul_one] at hrcs
 simp (disch:=omega) only[push_cast,qE,BkO,List.length_map]
 refine callV en_15 (callX_base (fun w' hw'=>apart_walk wb w' b29 rb rcap rcs (ity++itz) (oVb b25 x za zc::oVb b22 x ya yc::oVb b19 x xa xc::(ownR itx++L)) (fun q hq=>?_) hrcs (by rw[List.length_append]; omega) (fun p hp=>?_) hb29 (hnR2 _ (.head _)) (hw'.perm (?_:List.Perm (oBk b29 (.slice (some ⟨rb,0,none⟩) (ity++itz).length rcap) (.slice none 0 0)::oWs rb rcs::(oVb b25 x za zc::(ownR itz++(oVb b22 x ya yc::(ownR ity++(oVb b19 x xa xc::(ownR itx++L))))))) _))) ?_)
 ·rcases List.mem_append.1 hq with hq|hq
  ·have:=ZeV.rows _ hZy q hq
   exact ⟨this.1,by omega⟩
  ·have:=ZeV.rows _ hZz q hq
   exact ⟨this.1,by omega⟩
 ·rw[ownR_append] at hp
  rcases List.mem_append.1 hp with hp|hp
  ·exact hM2 p hp
  ·exact hM3 p hp
 ·rw[ownR_append]
  exact pC
 rintro e' w' ⟨rfl,q1⟩
 refine ⟨_,_,rfl,q1,?_⟩
 clear q1
 simp (disch:=omega) only[push_cast,qE,h2,h3]
 have hLz:∀ p∈(oVb b25 x za zc::oVb b22 x ya yc::oVb b19 x xa xc::(ownR itx++L)),wb.heap.size≤p.1:=nwC hb25 (nwC hb22 (nwC hb19 (nwA hM1 hL)))
 refine lAg Shp.eq (.tail _ (.tail _ (.tail _ (qR _ m3')))) rfl rfl ?_
 simp (maxSteps:=1000000) (disch:=omega) only[push_cast,qE,h2,h3]
 refine callV en_12 (cNw (fun w' hw'=>parseV_walk w' (hs.mono hw' hLz) lo (hTb.mono hw' hLz) (hl.mono hw' hLz) (Nat.le_trans hlo hw'.size) f a c (hA.sy hlo hw' hLz) hfn s hsl) (fun u4 M4 hM4 hMn4 hu=>?_))
 rw[hpx] at hu
 obtain ⟨itu,ua,uc,hZu,rfl,rfl⟩:=hu
 replace hZu:ZeV x itu ua uc:=hZu
 simp (maxSteps:=1000000) (disch:=omega) only[push_cast,qE,h2,h3,h22,Vl.cells]
 refine storeX_weak (L':=oVb b22 x ya yc::(ownR itu++(oVb b25 x za zc::oVb b19 x xa xc::(ownR itx++L)))) (fun w hw=>hw.perm (pC)) (sXa 0 rfl Siz.eq rfl rfl ?_)
 simp (maxSteps:=1000000) (disch:=omega) only[push_cast,qE,h19,h22]
 refine lAg Shp.eq (.tail _ (qR _ (.tail _ (.head _)))) rfl rfl ?_
 simp (maxSteps:=1000000) (disch:=omega) only[push_cast,qE,h19,h22]
 refine lAg Shp.eq mem0 rfl rfl ?_
 simp (maxSteps:=1000000) (disch:=omega) only[push_cast,qE,h19,h22]
 refine callV en_13 (cIs (v:=.bool true) (fun w' hw'=>by
  have h:=kS _ w' hw' itx itu xa ua xc uc hZx hZu (fun p hp=>.tail _ (qR _ (.tail _ (.tail _ (qL _ hp))))) (fun p hp=>.tail _ (qL _ hp))
  rw[hsame] at h
  exact h) ?_)
 simp (maxSteps:=1000000) (disch:=omega) only[push_cast,qE,h20,h21,Bool.not_true]
 refine gF rfl (fun _=>?_) (fun h=>absurd rfl h)
 simp (maxSteps:=1000000) (disch:=omega) only[push_cast,qE,h20,h21]
 rw[Vc]
 simp (maxSteps:=1000000) (disch:=omega) only[push_cast,qE]
 refine cdD (fun h=>absurd rfl h) (fun _=>?_)
 simp (maxSteps:=1000000) (disch:=omega) only[push_cast,qE,h18]
 refine ⟨i+1,_,fun w hw=>hw,⟨rfl,rfl,by omega,⟨s,hsl,h2⟩,by rw[ho3]; exact h3,h7,uu,.tail _ (qR _ (.tail _ (.tail _ (qR _ m3)))),?_⟩,by omega⟩
 exact nwC hb22 (nwA hM4 (nwC hb25 (nwC hb19 (nwA hM1 hL))))
end Go.Proofs.YtilejcofleeeiaaGreatDoor
