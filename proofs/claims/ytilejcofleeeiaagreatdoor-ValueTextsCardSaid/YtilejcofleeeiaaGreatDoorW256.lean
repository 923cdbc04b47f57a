/- YtilejcofleeeiaaGreatDoor: walks, part 256: the reference's reader: what it owns, how its functions end; faults, signs, rows. -/
import Derived.Test.YtilejcofleeeiaaGreatDoorW25
import Derived.Test.YtilejcofleeeiaaGreatDoorW90
import Derived.Test.YtilejcofleeeiaaGreatDoorW99
import Derived.Test.YtilejcofleeeiaaGreatDoorW235
namespace Go.Proofs.YtilejcofleeeiaaGreatDoor
open Go Go.K
open Nat renaming reduceEqDiff → qE
open List renaming mem_cons → qM, length_cons → qN, length_append → qA, mem_nil_iff → qI, getElem?_eq_getElem → qH
set_option maxRecDepth 100000
set_option linter.unusedVariables false
set_option linter.unusedSimpArgs false
set_option maxHeartbeats 4000000
theorem checkFieldR_walk (w:World) (lo:Nat) (hlo:lo≤w.heap.size) (f:Fld) (a:Option Addr) (c:Nat) (hf:Rd w lo a f.sub) (hfc:f.sub.length≤c) (hc2:c≤9223372036854775807) (hfn:f.nm.length≤9223372036854775807) :
 Calls Tryz.prog 55 #[.agg #[str f.nm,.bool f.nl,i64 f.k,i64 f.wd,i64 f.id,i64 f.ix,.slice a f.sub.length c]] w (RetsN w (fun v M=>∃ pa pc,v=.agg #[i64 (checkP [f] []).1,.slice pa (checkP [f] []).2.1.tail.length pc,i64 (checkP [f] []).2.2]∧(pa=none∧pc=0∧(checkP [f] []).2.1=[]∨∃ b cap cs,pa=some ⟨b,if cap=1 then 0 else 1,none⟩∧pc=cap - 1∧(b,.cells cs 3 (0,0))∈M∧RowIn [(b,.cells cs 3 (0,0))] 3 (.slice (some ⟨b,0,none⟩) (checkP [f] []).2.1.length cap) (checkP [f] []).2.1.length (ints (checkP [f] []).2.1)))):=by
 refine enterT (args:=[.agg #[str f.nm,.bool f.nl,i64 f.k,i64 f.wd,i64 f.id,i64 f.ix,.slice a f.sub.length c]]) Tryz.func55 rfl Tryz.ntmps55 (congrArg Array.toList Tryz.results55) (by kernel_rfl) (by simp) (Sy.refl w) ?_
 refine sp ?_
 refine newI (fun b1 hb1 hn1=>?_)
 refine sp ?_
 refine newI (fun b2 hb2 hn2=>?_)
 refine sp ?_
 refine lAg sh_26 (.tail _ (.head _)) rfl rfl ?_
 refine sp ?_
 refine bs_22_1 (newI fun b3 hb3 hn3=>?_)
 have hL:∀ p∈[(qb0 b3 f a c),(b2,Obj.cells #[.int .i64 0,.slice none 0 0,.int .i64 0] 85 (0,0)),(qb0 b1 f a c)],w.heap.size≤p.1:=by
  intro p hp
  simp only[qM,qI,or_false] at hp
  rcases hp with rfl|rfl|rfl<;>assumption
 refine sp ?_
 refine callV en_90 (callX_newR (fun w' hw'=>checkR_walk w' w'.heap.size (Nat.le_refl _) [f] (some ⟨b3,0,none⟩) 1 (.cons (hw'.lt (.head _)) hfc hfn hc2 (At.of_own hw' (.head _) rfl) ((hf.sy hlo hw' (fun p hp=>Nat.le_trans hlo (hL p hp))).weaken (Nat.le_trans hlo hw'.size)) (.nil _)) (by simp) (by omega) [] none 0 (.inl rfl) (by simp) (by omega)) (fun v M hM hMn ⟨pa,pc,hv,hrow,hnil⟩=>?_))
 subst hv
 refine sp ?_
 refine newI (fun b4 hb4 hn4=>?_)
 refine sp ?_
 repeat' (first|((first|((first|refine gT rfl ?_ ?_|refine gF rfl ?_ ?_|refine cdD ?_ ?_)<;>intro h)|((first|refine gbT rfl ?_ ?_|refine gbF rfl ?_ ?_|refine cdB ?_ ?_)<;>intro h<;>(try subst h))|refine lOa Shp.eq rfl ?_|refine lAa Shp.eq rfl rfl ?_|refine newI (fun b hb hn=>?_)|refine sXb Siz.eq rfl rfl ?_)<;>simp (disch:=omega) only[push_cast,qE]))
 generalize checkP [f] []=r at *
 have hnew:∀ (x y z u:Obj),∀ p∈[(b4,x),(b3,y),(b2,z),(b1,u)],w.heap.size≤p.1:=by
  intro x y z u p hp
  simp only[qM,qI,or_false] at hp
  rcases hp with rfl|rfl|rfl|rfl<;>assumption
 rw[Vc]
 refine sp ?_
 refine cdD (fun hpos=>?_) (fun hneg=>?_)
 ·obtain ⟨_,⟨he,h0⟩|⟨b,cap,cs,he,hm,h1,h2,h3,h4⟩⟩:=hrow
  ·omega
  injection he with he1 he2 he3
  subst he1; subst he3
  refine sp ?_
  repeat' (first|((first|((first|refine gT rfl ?_ ?_|refine gF rfl ?_ ?_|refine cdD ?_ ?_)<;>intro h)|((first|refine gbT rfl ?_ ?_|refine gbF rfl ?_ ?_|refine cdB ?_ ?_)<;>intro h<;>(try subst h))|refine lOa Shp.eq rfl ?_|refine lAa Shp.eq rfl rfl ?_|refine newI (fun b hb hn=>?_)|refine sXb Siz.eq rfl rfl ?_)<;>simp (disch:=omega) only[push_cast,qE]))
  refine fun w' hw'=>⟨_,M,rfl,hw'.left (A:=[_,_,_,_]) (hnew _ _ _ _),hM,some ⟨b,if pc=1 then 0 else 1,none⟩,pc - 1,?_,.inr ⟨b,pc,cs.toArray,rfl,rfl,hm,?_⟩⟩
  ·rw[List.length_tail]
  ·exact ⟨by simp[ints],.inr ⟨b,pc,cs,rfl,.head _,h1,h2,h3,h4⟩⟩
 ·refine sp ?_
  repeat' (first|((first|((first|refine gT rfl ?_ ?_|refine gF rfl ?_ ?_|refine cdD ?_ ?_)<;>intro h)|((first|refine gbT rfl ?_ ?_|refine gbF rfl ?_ ?_|refine cdB ?_ ?_)<;>intro h<;>(try subst h))|refine lOa Shp.eq rfl ?_|refine lAa Shp.eq rfl rfl ?_|refine newI (fun b hb hn=>?_)|refine sXb Siz.eq rfl rfl ?_)<;>simp (disch:=omega) only[push_cast,qE]))
  have hr0:r.2.1=[]:=List.eq_nil_of_length_eq_zero (by omega)
  obtain ⟨rfl,rfl⟩:=hnil hr0
  refine fun w' hw'=>⟨_,M,rfl,hw'.left (A:=[_,_,_,_]) (hnew _ _ _ _),hM,none,0,?_,.inl ⟨rfl,rfl,hr0⟩⟩
  rw[hr0]
  rfl
def wtP (v:Vl) (most:Int):Int:=if (wV v:Int)≤most then wV v else most+1
structure WtI (w0:World) (b2:Nat) (v:Vl) (va:Option Addr) (vc:Nat) (most:Int) (i:Nat) (wb:World) (e:Env) (ds:List Deferred) (L:Own):Prop where
 hw:wb=w0
 hds:ds=[]
 o:L=[(qb3 b2 v.nu v.num v.tx va v.ls.length vc)]
 hi:i≤v.ls.length
 n:∃ n:Int,e 5=i64 n∧((n=(16+v.tx.length+wL (v.ls.take i):Nat)∧n≤most)∨(n=most+1∧most < wV v))
 h1:e 1=i64 most
 h2:e 2=.pointer (some ⟨b2,0,none⟩)
 h6:e 6=i64 i
theorem weight_walk:∀ (n:Nat) (w:World) (lo:Nat) (v:Vl) (va:Option Addr) (vc:Nat) (most:Int),SizeOf.sizeOf v≤n→lo≤w.heap.size→VAt w lo v va vc→0≤most→most≤4611686018427387904 →
 Calls Tryz.prog 20 #[.agg (v.cells va vc).toArray,i64 most] w (Rets w (Is (i64 (wtP v most)))):=by
 intro n
 induction n with
 | zero=>intro w lo v va vc most hn; cases v; simp at hn
 | succ n ih =>
 intro w lo v va vc most hn hlo hV hm0 hm1
 have hbnd:v.ls.length≤9223372036854775807:=Nat.le_trans hV.hc hV.hc2
 have htx:=hV.ht
 have hwv:=wV_eq v
 refine enterT (args:=[.agg (v.cells va vc).toArray,i64 most]) Tryz.func20 rfl Tryz.ntmps20 (congrArg Array.toList Tryz.results20) (by kernel_rfl) (by simp) (Sy.refl w) ?_
 simp (disch:=omega) only[push_cast,qE,Vl.cells]
 refine newI (fun b2 hb2 hn2=>?_)
 simp (disch:=omega) only[push_cast,qE,Vl.cells]
 have hL:∀ x:Obj,∀ p∈[(b2,x)],w.heap.size≤p.1:=fun x p hp=>by rw[List.mem_singleton.1 hp]; exact hb2
 refine lOn Shp.eq mem0 rfl ?_
 refine sp ?_
 rw[Vc]
 refine sp ?_
 refine cdD (fun hg=>?_) (fun hg=>?_)
 ·refine sp ?_
  exact finIs (hL _) (congrArg i64 (by unfold wtP; rw[if_neg (by omega)]))
 refine sp ?_
 refine lOn Shp.eq mem0 rfl ?_
 refine sp ?_
 rw[Vb]
 refine sp ?_
 refine loopW (G:=Nat) (WtI w b2 v va vc most) (fun i=>v.ls.length - i) 0 _ (fun w hw=>hw) (by kernel_rfl) ⟨rfl,rfl,rfl,by omega,⟨_,rfl,.inl ⟨by simp[wL],by omega⟩⟩,rfl,rfl,rfl⟩ ?_
 rintro i wb e ds L ⟨rfl,rfl,rfl,hi,⟨z,h5,hz⟩,h1,h2,h6⟩
 simp (disch:=omega) only[push_cast,qE,h1,h2,h5,h6]
 refine lOn Shp.eq mem0 rfl ?_
 simp (disch:=omega) only[push_cast,qE,h1,h2,h5,h6]
 rw[Vc]
 simp (disch:=omega) only[push_cast,qE,h1,h2,h5,h6]
 have hle:=wL_take_le v.ls i
 refine cdD (fun hlt=>?_) (fun hge=>?_)
 ·simp (disch:=omega) only[push_cast,qE,h1,h2,h5,h6]
  rw[Vb]
  simp (disch:=omega) only[push_cast,qE,h1,h2,h5,h6]
  rw[Vc]
  simp (disch:=omega) only[push_cast,qE,h1,h2,h5,h6]
  refine cdD (fun hz2=>?_) (fun hz2=>?_)
  ·simp (disch:=omega) only[push_cast,qE,h1,h2,h5,h6]
   exact finIs (hL _) (congrArg i64 (by unfold wtP; rw[if_neg (by omega)]))
  obtain ⟨x,hx⟩:∃ x,v.ls[i]?=some x:=⟨_,qH (by omega)⟩
  obtain ⟨xb,xoff,xa,xc,rfl,x1,x2,x3⟩:=hV.get hx
  have hsz:=Vl.size_get hx
  have hfx:=wL_take hx
  have hle2:=wL_take_le v.ls (i+1)
  simp (disch:=omega) only[push_cast,qE,h1,h2,h5,h6]
  refine lOn Shp.eq mem0 rfl ?_
  simp (disch:=omega) only[push_cast,qE,h1,h2,h5,h6]
  refine ldAggF Shp.eq x2 rfl (out_of (fun p hp=>Nat.lt_of_lt_of_le (Nat.lt_of_lt_of_le x1 hlo) (hL _ p hp))) ?_
  simp (disch:=omega) only[push_cast,qE,h1,h2,h5,h6,Vl.cells]
  refine callV en_20 (cIs (fun w' hw'=>ih w' lo x xa xc (most - z) (by omega) (Nat.le_trans hlo hw'.size) (x3.sy hlo hw' (hL _)) (by omega) (by omega)) ?_)
  have hr:(z+wtP x (most - z)=(16+v.tx.length+wL (v.ls.take (i+1)):Nat)∧z+wtP x (most - z)≤most)∨(z+wtP x (most - z)=most+1∧most < wV v):=by
   unfold wtP
   by_cases hc:(wV x:Int)≤most - z
   ·rw[if_pos hc]; left; omega
   ·rw[if_neg hc]; right; omega
  generalize wtP x (most - z)=r at hr ⊢
  simp (disch:=omega) only[push_cast,qE,h1,h2,h5,h6]
  exact ⟨i+1,_,fun w hw=>hw,⟨rfl,rfl,rfl,by omega,⟨_,uu,hr⟩,h1,h2,uu⟩,by omega⟩
 ·obtain rfl:i=v.ls.length:=by omega
  rw[List.take_length] at hz
  simp (disch:=omega) only[push_cast,qE,h1,h2,h5,h6]
  rw[Vc]
  simp (disch:=omega) only[push_cast,qE,h1,h2,h5,h6]
  refine cdD (fun hz2=>?_) (fun hz2=>?_)
  ·simp (disch:=omega) only[push_cast,qE,h1,h2,h5,h6]
   exact finIs (hL _) (congrArg i64 (by unfold wtP; rw[if_neg (by omega)]))
  ·simp (disch:=omega) only[push_cast,qE,h1,h2,h5,h6]
   exact finIs (hL _) (congrArg i64 (by unfold wtP; rw[if_pos (by omega)]; omega))
theorem right_walk (w:World) (lo:Nat) (hlo:lo≤w.heap.size) (f:Fld) (a:Option Addr) (c:Nat) (hA:FlAt w lo f a c) (hfn:f.nm.length≤9223372036854775807) :
 Calls Tryz.prog 28 #[.agg (f.cells a c).toArray] w (Rets w (Is (.bool (mayD f)))):=by
 refine enterT (args:=[.agg (f.cells a c).toArray]) Tryz.func28 rfl Tryz.ntmps28 (congrArg Array.toList Tryz.results28) (by kernel_rfl) (by simp) (Sy.refl w) ?_
 simp (disch:=omega) only[push_cast,qE,Fld.cells]
 refine newI (fun b1 hb1 hn1=>?_)
 simp (disch:=omega) only[push_cast,qE,Fld.cells]
 refine lAg Shp.eq mem0 rfl rfl ?_
 refine sp ?_
 have hL:∀ x:Obj,∀ p∈[(b1,x)],w.heap.size≤p.1:=fun x p hp=>by rw[List.mem_singleton.1 hp]; exact hb1
 refine callV en_55 (cNw (fun w' hw'=>checkFieldR_walk w' lo (Nat.le_trans hlo hw'.size) f a c (hA.sy hlo hw' (hL _)).hr hA.hc hA.hc2 hfn) (fun v M hM _ hv=>?_))
 obtain ⟨pa,pc,rfl,-⟩:=hv
 refine sp ?_
 refine newI (fun b3 hb3 hn3=>?_)
 refine sp ?_
 refine sXa 0 rfl Siz.eq rfl rfl ?_
 refine sp ?_
 refine lOn Shp.eq mem0 rfl ?_
 refine sp ?_
 refine finIs (fun p hp=>?_) rfl
 rcases List.mem_cons.1 hp with rfl|hp
 ·exact hb3
 rcases List.mem_append.1 hp with hp|hp
 ·exact hM p hp
 ·exact hL _ p hp
theorem fitsRight_walk (w:World) (lo:Nat) (hlo:lo≤w.heap.size) (f:Fld) (v:Vl) (a va:Option Addr) (c vc:Nat) (hok:okD 64 f) (hA:FlAt w lo f a c) (hV:VAt w lo v va vc) :
 Calls Tryz.prog 37 #[.agg (f.cells a c).toArray,.agg (v.cells va vc).toArray] w (Rets w (Is (.bool (goodD f v)))):=by
 refine enterT (args:=[.agg (f.cells a c).toArray,.agg (v.cells va vc).toArray]) Tryz.func37 rfl Tryz.ntmps37 (congrArg Array.toList Tryz.results37) (by kernel_rfl) (by simp) (Sy.refl w) ?_
 simp (disch:=omega) only[push_cast,qE,Fld.cells,Vl.cells]
 refine newI (fun b2 hb2 hn2=>?_)
 simp (disch:=omega) only[push_cast,qE,Fld.cells,Vl.cells]
 refine newI (fun b3 hb3 hn3=>?_)
 simp (disch:=omega) only[push_cast,qE,Fld.cells,Vl.cells]
 have hL:∀ x y:Obj,∀ p∈[(b3,x),(b2,y)],w.heap.size≤p.1:=fun x y p hp=>by
  simp only[qM,qI,or_false] at hp
  rcases hp with rfl|rfl
  ·exact hb3
  ·exact hb2
 refine lAg Shp.eq mem0 rfl rfl ?_
 refine sp ?_
 refine callV en_20 (cIs (fun w' hw'=>weight_walk _ w' lo v va vc 4194304 (Nat.le_refl _) (Nat.le_trans hlo hw'.size) (hV.sy hlo hw' (hL _ _)) (by omega) (by omega)) ?_)
 have hw:wtP v 4194304≤4194304↔wV v≤4194304:=by unfold wtP; split<;>omega
 generalize wtP v 4194304=r at hw ⊢
 refine sp ?_
 refine gT rfl (fun hg=>?_) (fun hg=>?_)
 ·refine sp ?_
  refine lAg Shp.eq mem1 rfl rfl ?_
  refine sp ?_
  refine lAg Shp.eq mem0 rfl rfl ?_
  refine sp ?_
  refine callV en_76 (cIs (fun w' hw'=>fitsR_all 64 w' lo f v a va c vc (Nat.le_trans hlo hw'.size) hok (hA.sy hlo hw' (hL _ _)) (hV.sy hlo hw' (hL _ _)) (hw.1 hg)) ?_)
  refine sp ?_
  exact finIs (hL _ _) (congrArg Value.bool (by unfold goodD; rw[decide_eq_true (show (wV v:Int)≤4194304 by have:=hw.1 hg; omega),Bool.and_true]))
 ·refine sp ?_
  exact finIs (hL _ _) (congrArg Value.bool (by unfold goodD; rw[decide_eq_false (fun h=>hg (hw.2 (by omega))),Bool.and_false]))
theorem fitsRef_walk (w:World) (lo:Nat) (hlo:lo≤w.heap.size) (f:Fld) (v:Vl) (a va:Option Addr) (c vc:Nat) (hA:FlAt w lo f a c) (hfn:f.nm.length≤9223372036854775807) (hV:VAt w lo v va vc) :
 Calls Tryz.prog 18 #[.agg (f.cells a c).toArray,.agg (v.cells va vc).toArray] w (Rets w (Is (i64 (fitsP f v)))):=by
 refine enterT (args:=[.agg (f.cells a c).toArray,.agg (v.cells va vc).toArray]) Tryz.func18 rfl Tryz.ntmps18 (congrArg Array.toList Tryz.results18) (by kernel_rfl) (by simp) (Sy.refl w) ?_
 simp (disch:=omega) only[push_cast,qE,Fld.cells,Vl.cells]
 refine newI (fun b2 hb2 hn2=>?_)
 simp (disch:=omega) only[push_cast,qE,Fld.cells,Vl.cells]
 refine newI (fun b3 hb3 hn3=>?_)
 simp (disch:=omega) only[push_cast,qE,Fld.cells,Vl.cells]
 have hL:∀ x y:Obj,∀ p∈[(b3,x),(b2,y)],w.heap.size≤p.1:=fun x y p hp=>by
  simp only[qM,qI,or_false] at hp
  rcases hp with rfl|rfl
  ·exact hb3
  ·exact hb2
 refine lAg Shp.eq mem1 rfl rfl ?_
 refine sp ?_
 refine callV en_28 (cIs (fun w' hw'=>right_walk w' lo (Nat.le_trans hlo hw'.size) f a c (hA.sy hlo hw' (hL _ _)) hfn) ?_)
 refine sp ?_
 rw[Vc]
 refine sp ?_
 refine cdB (fun hm=>?_) (fun hm=>?_)
 ·refine sp ?_
  exact finIs (hL _ _) (congrArg i64 (by rw[Bool.not_eq_true'] at hm; unfold fitsP; rw[hm]; rfl))
 rw[Bool.not_eq_false'] at hm
 refine sp ?_
 refine lAg Shp.eq mem1 rfl rfl ?_
 refine sp ?_
 refine lAg Shp.eq mem0 rfl rfl ?_
 refine sp ?_
 refine callV en_37 (cIs (fun w' hw'=>fitsRight_walk w' lo (Nat.le_trans hlo hw'.size) f v a va c vc (mayD_okD hm) (hA.sy hlo hw' (hL _ _)) (hV.sy hlo hw' (hL _ _))) ?_)
 refine sp ?_
 rw[Vc]
 refine sp ?_
 refine cdB (fun hg=>?_) (fun hg=>?_)
 ·refine sp ?_
  exact finIs (hL _ _) (congrArg i64 (by rw[Bool.not_eq_true'] at hg; unfold fitsP; rw[hm,hg]; rfl))
 ·refine sp ?_
  rw[Bool.not_eq_false'] at hg
  exact finIs (hL _ _) (congrArg i64 (by unfold fitsP; rw[hm,hg]; rfl))
def heavyD (v:Vl):Bool:=decide ((2147483647:Int) < wV v)
theorem heavy_walk (w:World) (lo:Nat) (hlo:lo≤w.heap.size) (v:Vl) (va:Option Addr) (vc:Nat) (hV:VAt w lo v va vc) :
 Calls Tryz.prog 6 #[.agg (v.cells va vc).toArray] w (Rets w (Is (.bool (heavyD v)))):=by
 refine enterT (args:=[.agg (v.cells va vc).toArray]) Tryz.func6 rfl Tryz.ntmps6 (congrArg Array.toList Tryz.results6) (by kernel_rfl) (by simp) (Sy.refl w) ?_
 simp (disch:=omega) only[push_cast,qE,Vl.cells]
 refine newI (fun b1 hb1 hn1=>?_)
 simp (disch:=omega) only[push_cast,qE,Vl.cells]
 have hL:∀ x:Obj,∀ p∈[(b1,x)],w.heap.size≤p.1:=fun x p hp=>by rw[List.mem_singleton.1 hp]; exact hb1
 refine lAg Shp.eq mem0 rfl rfl ?_
 refine sp ?_
 refine callV en_20 (cIs (fun w' hw'=>weight_walk _ w' lo v va vc 2147483647 (Nat.le_refl _) (Nat.le_trans hlo hw'.size) (hV.sy hlo hw' (hL _)) (by omega) (by omega)) ?_)
 have hw:(2147483647:Int) < wtP v 2147483647↔(2147483647:Int) < wV v:=by unfold wtP; split<;>omega
 generalize wtP v 2147483647=r at hw ⊢
 refine sp ?_
 exact finIs (hL _) (congrArg Value.bool (by unfold heavyD; rw[decide_eq_decide]; exact hw))
structure SlA (w0:World) (op cl:UInt8) (L0:Own) (b3 b4:Nat) (wb:World) (e:Env) (ds:List Deferred) (L:Own):Prop where
 hw:wb=w0
 hds:ds=[]
 o:L=L0
 h2:e 2=i64 65536
 h3:e 3=.pointer (some ⟨b3,0,none⟩)
 h4:e 4=.pointer (some ⟨b4,0,none⟩)
 h7:e 7=str [op]
 h8:e 8=str [cl]
structure SlI (w0:World) (cl:UInt8) (L0:Own) (b3 b4:Nat) (f:Fld) (T:Fld→Vl→List UInt8) (ls:List Vl) (R:List UInt8) (i:Nat) (o:List UInt8) (wb:World) (e:Env) (ds:List Deferred) (L:Own):Prop where
 hw:wb=w0
 hds:ds=[]
 own:L=L0
 hi:i≤ls.length
 ho:o.length≤65536
 hR:itemsR f T i (ls.drop i) o=R
 h2:e 2=i64 65536
 h3:e 3=.pointer (some ⟨b3,0,none⟩)
 h4:e 4=.pointer (some ⟨b4,0,none⟩)
 h7:e 7=str o
 h8:e 8=str [cl]
 h9:e 9=i64 i
structure SlB (w0:World) (cl:UInt8) (L0:Own) (b3 b4:Nat) (o:List UInt8) (i:Nat) (wb:World) (e:Env) (ds:List Deferred) (L:Own):Prop where
 hw:wb=w0
 hds:ds=[]
 own:L=L0
 h2:e 2=i64 65536
 h3:e 3=.pointer (some ⟨b3,0,none⟩)
 h4:e 4=.pointer (some ⟨b4,0,none⟩)
 h7:e 7=str o
 h8:e 8=str [cl]
 h9:e 9=i64 i
structure SlC (w0:World) (cl:UInt8) (L0:Own) (lo b3 b4:Nat) (g:Fld) (o:List UInt8) (i:Nat) (wb:World) (e:Env) (ds:List Deferred) (L:Own):Prop where
 hw:wb=w0
 hds:ds=[]
 own:∃ b10 ga gc,L=(b10,Obj.cells (g.cells ga gc).toArray 26 (0,0))::L0∧w0.heap.size≤b10∧FlAt w0 lo g ga gc∧e 10=.pointer (some ⟨b10,0,none⟩)
 h2:e 2=i64 65536
 h3:e 3=.pointer (some ⟨b3,0,none⟩)
 h4:e 4=.pointer (some ⟨b4,0,none⟩)
 h7:e 7=str o
 h8:e 8=str [cl]
 h9:e 9=i64 i
theorem slist_step (d:Nat) (hP:ShOK d):SlOK d:=by
 intro w lo ind f v a va c vc hlo hok hk hnu hfit hr hA hV hwt
 obtain ⟨_,f17,_,ftx,fall⟩:=fit_list hnu hk hfit
 have hwe:=wV_eq v
 have h96:v.ls.length≤4096:=by rw[fitD] at hfit; exact of_decide_eq_true (Bool.and_eq_true_iff.1 hfit).1
 obtain ⟨op,hop⟩:∃ op:UInt8,(if f.k=17 then 123 else 91)=op:=⟨_,rfl⟩
 obtain ⟨cl,hcl⟩:∃ cl:UInt8,(if f.k=17 then 125 else 93)=cl:=⟨_,rfl⟩
 have hsub:0 < v.ls.length→0 < f.sub.length:=fun h0=>by
  obtain ⟨g,hg,_⟩:=fall 0 _ (qH h0)
  have:=(List.getElem?_eq_some_iff.1 hg).1
  omega
 refine enterT (args:=[.agg (f.tcells a c).toArray,.agg (v.cells va vc).toArray,i64 65536]) Tryz.func42 rfl Tryz.ntmps42 (congrArg Array.toList Tryz.results42) (by kernel_rfl) (by simp) (Sy.refl w) ?_
 simp (disch:=omega) only[push_cast,qE,Fld.tcells,Vl.cells]
 refine newI (fun b3 hb3 hn3=>?_)
 simp (disch:=omega) only[push_cast,qE,Fld.tcells,Vl.cells]
 refine newI (fun b4 hb4 hn4=>?_)
 simp (disch:=omega) only[push_cast,qE,Fld.tcells,Vl.cells]
 refine lOn Shp.eq mem1 rfl ?_
 refine sp ?_
 have hL:∀ p∈[(qb3 b4 v.nu v.num v.tx va v.ls.length vc),(qb1 b3 f a c)],w.heap.size≤p.1:=fun p hp=>by
  simp only[qM,qI,or_false] at hp
  rcases hp with rfl|rfl
  ·exact hb4
  ·exact hb3
 obtain ⟨L0,hL0⟩:∃ L0,[(qb3 b4 v.nu v.num v.tx va v.ls.length vc),(qb1 b3 f a c)]=L0:=⟨_,rfl⟩
 have m4:(qb3 b4 v.nu v.num v.tx va v.ls.length vc)∈L0:=by rw[← hL0]; exact mem0
 have m3:(qb1 b3 f a c)∈L0:=by rw[← hL0]; exact mem1
 refine cutV (SlA w op cl L0 b3 b4) ?_ ?_
 ·rw[Vc]
  refine sp ?_
  refine cdD (fun h=>?_) (fun h=>?_)
  ·refine sp ?_
   exact ⟨rfl,rfl,hL0,rfl,rfl,rfl,by rw[← hop,if_pos h]; rfl,by rw[← hcl,if_pos h]; rfl⟩
  ·refine sp ?_
   exact ⟨rfl,rfl,hL0,rfl,rfl,rfl,by rw[← hop,if_neg h]; rfl,by rw[← hcl,if_neg h]; rfl⟩
 rw[hL0] at hL
 rintro wb e ds L ⟨rfl,rfl,rfl,h2,h3,h4,h7,h8⟩
 refine sp ?_
 rw[Vb]
 refine sp ?_
 refine loopW (G:=Nat×List UInt8) (fun g=>SlI wb cl L b3 b4 f (shownR d) v.ls (listR f (shownR d) v.ls) g.1 g.2) (fun g=>v.ls.length - g.1) (0,[op]) _ (fun w hw=>hw) (by kernel_rfl) ⟨rfl,rfl,rfl,Nat.zero_le _,by simp,by unfold listR; rw[hop]; rfl,h2,h3,h4,h7,h8,rfl⟩ ?_
 clear h2 h3 h4 h7 h8 e
 rintro ⟨i,o⟩ wb e ds L ⟨rfl,rfl,rfl,hi,ho,hR,h2,h3,h4,h7,h8,h9⟩
 simp only at hi ho hR h7 h9
 simp (disch:=omega) only[push_cast,qE,h4,h9]
 refine lOn Shp.eq m4 rfl ?_
 simp (disch:=omega) only[push_cast,qE,h9]
 rw[Vc]
 simp (disch:=omega) only[push_cast,qE,h9]
 refine cdD (fun hlt=>?_) (fun hge=>?_)
 rotate_left
 ·obtain rfl:i=v.ls.length:=by omega
  rw[List.drop_length,itemsR,hcl] at hR
  simp (disch:=omega) only[push_cast,qE,h7,h8]
  refine addS (by simp only[qN,List.length_nil]; omega) ?_
  refine sp ?_
  exact finIs hL (by rw[hR])
 obtain ⟨x,hx⟩:∃ x,v.ls[i]?=some x:=⟨_,qH (by omega)⟩
 obtain ⟨g,hg,hgx⟩:=fall i x hx
 have hgm:=List.mem_of_getElem? hg
 have hxm:=List.mem_of_getElem? hx
 have hpos:0 < f.sub.length:=hsub (by omega)
 obtain ⟨g0,hg0⟩:∃ g0,f.sub[0]?=some g0:=⟨_,qH hpos⟩
 obtain ⟨gb,goff,ga,gc,rfl,q1,q2,q3⟩:=hA.get hg0
 obtain ⟨gb',goff',ga',gc',he',r1,r2,r3⟩:=hA.get hg
 obtain ⟨rfl,rfl⟩:gb=gb'∧goff=goff':=by injection he' with h; injection h with h1 h2 h3; exact ⟨h1,h2⟩
 obtain ⟨xb,xoff,xa,xc,rfl,x1,x2,x3⟩:=hV.get hx
 rw[Nat.zero_mul,Nat.add_zero] at q2
 have hwx:=wL_mem hxm
 have hnm:=((hok.2 g hgm).name).2.2
 have hsl:=shownR_len d g x _ (hok.2 g hgm) hgx (hr.2 x hxm)
 have hdrop:v.ls.drop i=x::v.ls.drop (i+1):=by
  obtain ⟨hil,hxe⟩:=List.getElem?_eq_some_iff.1 hx
  rw[List.drop_eq_getElem_cons hil,hxe]
 rw[hdrop,itemsR] at hR
 obtain ⟨cm,hcm⟩:∃ cm:List UInt8,(if i=0 then [] else [44])=cm:=⟨_,rfl⟩
 have hcl1:cm.length≤1:=by rw[← hcm]; split<;>simp
 obtain ⟨nm,hnmx⟩:∃ nm:List UInt8,(if f.k=17 then g.nm++[58] else [])=nm:=⟨_,rfl⟩
 have hnl1:nm.length≤49:=by rw[← hnmx]; split<;>simp<;>omega
 have hit:itemT f (shownR d) i x=cm++(nm++shownR d g x):=by
  unfold itemT
  rw[hg,hcm]
  by_cases h17:f.k=17
  ·have hci:childN f i=i:=by unfold childN; rw[if_pos h17]
   rw[hci] at hg
   rw[if_pos h17] at hnmx
   simp only[hg,if_pos h17,hnmx]
  ·rw[if_neg h17] at hnmx
   subst hnmx
   rcases hgi:f.sub[i]? with _|g'<;>simp only[if_neg h17]
 rw[hit] at hR
 simp (disch:=omega) only[push_cast,qE,h9]
 rw[Vb]
 simp (disch:=omega) only[push_cast,qE,h9]
 refine cutV (SlB wb cl L b3 b4 (o++cm) i) ?_ ?_
 ·rw[Vc]
  simp (disch:=omega) only[push_cast,qE,h9]
  refine cdD (fun h=>?_) (fun h=>?_)
  ·have hc1:cm=[44]:=by rw[← hcm,if_neg (by omega)]
   simp (disch:=omega) only[push_cast,qE,h7]
   refine addS (m:=[44]) (by simp only[qN,List.length_nil]; omega) ?_
   refine sp ?_
   exact ⟨rfl,rfl,rfl,h2,h3,h4,by rw[hc1]; rfl,h8,h9⟩
  ·have hc1:cm=[]:=by rw[← hcm,if_pos (by omega)]
   refine sp ?_
   exact ⟨rfl,rfl,rfl,h2,h3,h4,by rw[hc1,List.append_nil]; exact h7,h8,h9⟩
 clear h2 h3 h4 h7 h8 h9 e
 rintro wb e ds L ⟨rfl,rfl,rfl,h2,h3,h4,h7,h8,h9⟩
 have hob:∀ p∈L,gb < p.1:=fun p hp=>Nat.lt_of_lt_of_le (Nat.lt_of_lt_of_le q1 hlo) (hL p hp)
 simp (disch:=omega) only[push_cast,qE,h3]
 refine lOn Shp.eq m3 rfl ?_
 simp (disch:=omega) only[push_cast,qE,h3]
 refine ldAggF Shp.eq q2 rfl (out_of hob) ?_
 simp (disch:=omega) only[push_cast,qE,Fld.cells]
 refine newI (fun b10 hb10 hn10=>?_)
 simp (disch:=omega) only[push_cast,qE,Fld.cells]
 refine sXa 0 rfl Siz.eq rfl rfl ?_
 simp (disch:=omega) only[push_cast,qE,h3]
 refine lOn Shp.eq (.tail _ m3) rfl ?_
 simp (disch:=omega) only[push_cast,qE,h3]
 refine cutV (SlC wb cl L lo b3 b4 g (o++cm++nm) i) ?_ ?_
 ·rw[Vc]
  refine sp ?_
  refine cdD (fun h=>?_) (fun h=>?_)
  ·have hci:childN f i=i:=by unfold childN; rw[if_pos h]
   rw[hci] at r2
   have hlt':i < f.sub.length:=by rw[hci] at hg; exact (List.getElem?_eq_some_iff.1 hg).1
   simp (disch:=omega) only[push_cast,qE,h3,h9]
   refine lOn Shp.eq (.tail _ m3) rfl ?_
   simp (disch:=omega) only[push_cast,qE,h3,h9]
   refine ldAggF Shp.eq r2 rfl (out_of (fun p hp=>?_)) ?_
   ·rcases List.mem_cons.1 hp with rfl|hp
    ·exact Nat.lt_of_lt_of_le (Nat.lt_of_lt_of_le q1 hlo) hb10
    ·exact hob p hp
   simp (disch:=omega) only[push_cast,qE,Fld.cells]
   refine sXa 0 rfl Siz.eq rfl rfl ?_
   simp (disch:=omega) only[push_cast,qE,h7]
   refine lOn Shp.eq mem0 rfl ?_
   simp (disch:=omega) only[push_cast,qE,h7]
   refine addS (by simp only[qA]; omega) ?_
   refine sp ?_
   refine addS (m:=[58]) (by simp only[qA,qN,List.length_nil]; omega) ?_
   refine sp ?_
   exact ⟨rfl,rfl,⟨b10,ga',gc',rfl,hb10,r3,rfl⟩,h2,h3,h4,by rw[← hnmx,if_pos h,← List.append_assoc]; rfl,h8,h9⟩
  ·have hci:childN f i=0:=by unfold childN; rw[if_neg h]
   rw[hci] at hg
   obtain rfl:g0=g:=by rw[hg0] at hg; injection hg
   refine sp ?_
   exact ⟨rfl,rfl,⟨b10,ga,gc,rfl,hb10,q3,rfl⟩,h2,h3,h4,by rw[← hnmx,if_neg h,List.append_nil]; exact h7,h8,h9⟩
 clear h2 h3 h4 h7 h8 h9 e hn10
 rintro wb e ds L' ⟨rfl,rfl,⟨b0,ka,kc,rfl,hb0,k3,h10⟩,h2,h3,h4,h7,h8,h9⟩
 have hL':∀ p∈(b0,Obj.cells (g.cells ka kc).toArray 26 (0,0))::L,wb.heap.size≤p.1:=(nC hb0 hL)
 rw[V_seq]
 refine cutV (SlB wb cl ((b0,Obj.cells (g.cells ka kc).toArray 26 (0,0))::L) b3 b4 (o++(cm++(nm++shownR d g x))) i) ?_ ?_
 ·refine drawQT (by kernel_rfl) (by kernel_rfl) mixed (by kernel_rfl) ?_
  simp (disch:=omega) only[push_cast,qE,h2,h4,h7,h9,h10]
  refine lAg Shp.eq mem0 rfl rfl ?_
  simp (disch:=omega) only[push_cast,qE,h2,h4,h7,h9]
  refine lOn Shp.eq (.tail _ m4) rfl ?_
  simp (disch:=omega) only[push_cast,qE,h2,h4,h7,h9]
  refine ldAggF Shp.eq x2 rfl (out_of (fun p hp=>Nat.lt_of_lt_of_le (Nat.lt_of_lt_of_le x1 hlo) (hL' p hp))) ?_
  simp (disch:=omega) only[push_cast,qE,h2,h7,Vl.cells]
  refine qcallV en_19 (qcallX_is _ (fun w' hw'=>hP w' lo _ g x ka xa kc xc (Nat.le_trans hlo hw'.size) (hok.2 g hgm) hgx (hr.2 x hxm) (k3.sy hlo hw' hL') (x3.sy hlo hw' hL') (by omega)) ?_)
  refine sp ?_
  refine addS (by simp only[qA]; omega) ?_
  refine sp ?_
  exact ⟨rfl,rfl,rfl,h2,h3,h4,by simp only[← List.append_assoc]; rfl,h8,h9⟩
 clear h2 h3 h4 h7 h8 h9 h10 e
 rintro wb e ds L' ⟨rfl,rfl,rfl,h2,h3,h4,h7,h8,h9⟩
 obtain ⟨o2,ho2⟩:∃ o2,o++(cm++(nm++shownR d g x))=o2:=⟨_,rfl⟩
 rw[ho2] at hR h7
 have ho2l:o2.length≤400000000:=by rw[← ho2]; simp only[qA]; omega
 simp (disch:=omega) only[push_cast,qE,h2,h7]
 rw[Vc]
 simp (disch:=omega) only[push_cast,qE,h2,h7]
 refine cdD (fun hb=>?_) (fun hb=>?_)
 ·rw[if_pos (by omega)] at hR
  simp (disch:=omega) only[push_cast,qE,h7]
  exact finIs hL' (by rw[hR])
 ·rw[if_neg (by omega)] at hR
  simp (disch:=omega) only[push_cast,qE,h9]
  refine ⟨(i+1,o2),L,fun w hw=>hw.left (A:=[_]) (fun p hp=>by rw[List.mem_singleton.1 hp]; exact hb0),⟨rfl,rfl,rfl,by simp only; omega,by simp only; omega,hR,h2,h3,h4,h7,h8,?_⟩,by simp only; omega⟩
  simp only[upd]; first|rfl|exact congrArg i64 (by omega)
theorem shown_all:∀ d,ShOK d
 | 0=>fun w lo ind f v a va c vc hlo hok=>hok.elim
 | d+1=>shown_step d (shown_all d) (slist_step d (shown_all d))
theorem printR_walk (w:World) (lo:Nat) (hlo:lo≤w.heap.size) (f:Fld) (v:Vl) (a va:Option Addr) (c vc:Nat) (hA:FlAt w lo f a c) (hfn:f.nm.length≤9223372036854775807) (hV:VAt w lo v va vc) :
 Calls Tryz.prog 5 #[.agg (f.cells a c).toArray,.agg (v.cells va vc).toArray] w (Rets w (Is (.tuple #[str (printP f v).1,i64 (printP f v).2]))):=by
 refine enterT (args:=[.agg (f.cells a c).toArray,.agg (v.cells va vc).toArray]) Tryz.func5 rfl Tryz.ntmps5 (congrArg Array.toList Tryz.results5) (by kernel_rfl) (by simp) (Sy.refl w) ?_
 simp (disch:=omega) only[push_cast,qE,Fld.cells,Vl.cells]
 refine newI (fun b2 hb2 hn2=>?_)
 simp (disch:=omega) only[push_cast,qE,Fld.cells,Vl.cells]
 refine newI (fun b3 hb3 hn3=>?_)
 simp (disch:=omega) only[push_cast,qE,Fld.cells,Vl.cells]
 have hL:∀ x y:Obj,∀ p∈[(b3,x),(b2,y)],w.heap.size≤p.1:=fun x y p hp=>by
  simp only[qM,qI,or_false] at hp
  rcases hp with rfl|rfl
  ·exact hb3
  ·exact hb2
 refine lAg Shp.eq mem1 rfl rfl ?_
 refine sp ?_
 refine lAg Shp.eq mem0 rfl rfl ?_
 refine sp ?_
 refine callV en_18 (cIs (fun w' hw'=>fitsRef_walk w' lo (Nat.le_trans hlo hw'.size) f v a va c vc (hA.sy hlo hw' (hL _ _)) hfn (hV.sy hlo hw' (hL _ _))) ?_)
 refine sp ?_
 rw[Vc]
 refine sp ?_
 refine cdD (fun h=>?_) (fun h=>?_)
 ·refine sp ?_
  exact finIs (hL _ _) (by unfold printP; rw[if_pos h])
 have hf:fitsP f v=0:=Decidable.not_not.1 h
 obtain ⟨hm,hfit,hwv⟩:=fitsP_zero hf
 have hok:=may_okT hm
 have hcut:=shownR_cut 64 f v false hok hfit
 refine sp ?_
 refine lAg Shp.eq mem1 rfl rfl ?_
 refine sp ?_
 refine lAg Shp.eq mem0 rfl rfl ?_
 refine sp ?_
 refine callV en_19 (cIs (fun w' hw'=>shown_all 64 w' lo false f v a va c vc (Nat.le_trans hlo hw'.size) hok hfit (VAt.rng 64 hV) (hA.sy hlo hw' (hL _ _)) (hV.sy hlo hw' (hL _ _)) (by omega)) ?_)
 refine sp ?_
 rw[Vc]
 refine sp ?_
 refine cdD (fun hb=>?_) (fun hb=>?_)
 ·refine sp ?_
  refine finIs (hL _ _) ?_
  unfold printP
  rw[if_neg (un hf),if_pos]
  rcases hcut with hc|⟨_,hc⟩
  ·rw[List.nil_append] at hc
   rw[← hc]; omega
  ·simpa using hc
 ·refine sp ?_
  refine finIs (hL _ _) ?_
  unfold printP
  have hc:shownR 64 f v=showV 64 f v:=by
   rcases hcut with hc|⟨hc,_⟩
   ·simpa using hc
   ·omega
  rw[hc] at hb
  rw[if_neg (un hf),if_neg (by omega),hc]
abbrev oRd (rb:Nat) (s:List UInt8) (p:Nat) (er:Int) (bd:Nat):Nat×Obj:=(rb,Obj.cells #[str s,i64 p,i64 er,i64 bd] 66 (0,0))
def RdR {α:Type} (wb:World) (rb:Nat) (s:List UInt8) (M:Own) (r:PV α) (S:α→Value→Own→Prop) (F:Value→Own→Prop) (e:Ending) (w':World):Prop :=
 ∃ (v:Value) (K:Own),e=.returned v∧(∀ b∈K,wb.heap.size≤b.1) ∧
  ((∃ x q,r=.ok x q∧q≤s.length∧S x v K∧Sy wb (oRd rb s q 0 0::(K++M)) w')∨(∃ er q p,r=.no er q∧er≠0∧F v K∧Sy wb (oRd rb s p er q::(K++M)) w'))
theorem RdR.good {α:Type} {wb w':World} {rb:Nat} {s:List UInt8} {M:Own} {r:PV α} {S:α→Value→Own→Prop} {F:Value→Own→Prop} {x:α} {q:Nat} (v:Value) (K:Own) (hr:r=.ok x q) (h2:q≤s.length) (h3:S x v K) (h4:∀ b∈K,wb.heap.size≤b.1) (h5:Sy wb (oRd rb s q 0 0::(K++M)) w'):RdR wb rb s M r S F (.returned v) w' :=
 ⟨v,K,rfl,h4,.inl ⟨x,q,hr,h2,h3,h5⟩⟩
theorem RdR.bad {α:Type} {wb w':World} {rb:Nat} {s:List UInt8} {M:Own} {r:PV α} {S:α→Value→Own→Prop} {F:Value→Own→Prop} {er:Int} {q p:Nat} (v:Value) (K:Own) (hr:r=.no er q) (h2:er≠0) (h3:F v K) (h4:∀ b∈K,wb.heap.size≤b.1) (h5:Sy wb (oRd rb s p er q::(K++M)) w'):RdR wb rb s M r S F (.returned v) w' :=
 ⟨v,K,rfl,h4,.inr ⟨er,q,p,hr,h2,h3,h5⟩⟩
theorem callX_rw {P:Program} {α:Type} {wb:World} {L M:Own} {Kp:KP} {rb:Nat} {s:List UInt8} {r:PV α} {S:α→Value→Own→Prop} {F:Value→Own→Prop} {f:FuncId} {args:Array Value} {K1:Value→World→Own→Prop} (W:Nat→Int→Nat→Own→Own)
 (h:∀ w,Sy wb L w→Calls P f args w (RdR wb rb s M r S F)) (hW:∀ p e b K w,Sy wb (oRd rb s p e b::(K++M)) w→Sy wb (W p e b K) w)
 (hk:∀ x q v K,r=.ok x q→q≤s.length→S x v K→(∀ b∈K,wb.heap.size≤b.1)→K1 v wb (W q 0 0 K))
 (hf:∀ er q p v K,r=.no er q→er≠0→F v K→(∀ b∈K,wb.heap.size≤b.1)→K1 v wb (W p er q K)):CallX P f args wb L (tag K1) (tag Kp):=by
 refine callX_own (S:=fun v L'=>∃ K:Own,(∀ b∈K,wb.heap.size≤b.1)∧((∃ x q,r=.ok x q∧q≤s.length∧S x v K∧L'=W q 0 0 K)∨(∃ er q p,r=.no er q∧er≠0∧F v K∧L'=W p er q K))) (fun w hw=>(h w hw).mono fun e w' hx=>?_) (fun v L' hx=>?_)
 ·obtain ⟨v,K,rfl,hK,⟨x,q,h1,h2,h3,h4⟩|⟨er,q,p,h1,h2,h3,h4⟩⟩:=hx
  ·exact ⟨v,_,rfl,hW _ _ _ _ _ h4,K,hK,.inl ⟨x,q,h1,h2,h3,rfl⟩⟩
  ·exact ⟨v,_,rfl,hW _ _ _ _ _ h4,K,hK,.inr ⟨er,q,p,h1,h2,h3,rfl⟩⟩
 ·obtain ⟨K,hK,⟨x,q,h1,h2,h3,rfl⟩|⟨er,q,p,h1,h2,h3,rfl⟩⟩:=hx
  ·exact hk x q v K h1 h2 h3 hK
  ·exact hf er q p v K h1 h2 h3 hK
theorem callX_rd {P:Program} {α:Type} {wb:World} {L M:Own} {Kp:KP} {rb:Nat} {s:List UInt8} {r:PV α} {S:α→Value→Own→Prop} {F:Value→Own→Prop} {f:FuncId} {args:Array Value} {K1:Value→World→Own→Prop}
 (h:∀ w,Sy wb L w→Calls P f args w (RdR wb rb s M r S F))
 (hk:∀ x q v K,r=.ok x q→q≤s.length→S x v K→(∀ b∈K,wb.heap.size≤b.1)→K1 v wb (oRd rb s q 0 0::(K++M)))
 (hf:∀ er q p v K,r=.no er q→er≠0→F v K→(∀ b∈K,wb.heap.size≤b.1)→K1 v wb (oRd rb s p er q::(K++M))):CallX P f args wb L (tag K1) (tag Kp) :=
 callX_rw (fun p e b K=>oRd rb s p e b::(K++M)) h (fun _ _ _ _ _ h=>h) hk hf
theorem callX_ru {P:Program} {α:Type} {wb:World} {L M:Own} {Kp:KP} {rb:Nat} {s:List UInt8} {r:PV α} {S:α→Value→Own→Prop} {F:Value→Own→Prop} {f:FuncId} {args:Array Value} {K1:Value→World→Own→Prop} (W:Nat→Int→Nat→Own→Own)
 (h:∀ w,Sy wb L w→Calls P f args w (RdR wb rb s M r S F)) (hW:∀ p e b K w,Sy wb (oRd rb s p e b::(K++M)) w→Sy wb (W p e b K) w)
 (hk:∀ p er bd v K,((∃ x,r=.ok x p∧p≤s.length∧S x v K∧er=0∧bd=0)∨(r=.no er bd∧er≠0∧F v K))→(∀ b∈K,wb.heap.size≤b.1)→K1 v wb (W p er bd K)):CallX P f args wb L (tag K1) (tag Kp) :=
 callX_rw W h hW (fun x q v K h1 h2 h3 h4=>hk q 0 0 v K (.inl ⟨x,h1,h2,h3,rfl,rfl⟩) h4) (fun er q p v K h1 h2 h3 h4=>hk p er q v K (.inr ⟨h1,h2,h3⟩) h4)
theorem failR_ok (wb w:World) (rb:Nat) (s:List UInt8) (p:Nat) (bd:Nat) (M:Own) (er:Int) (q:Nat) (hw:Sy wb (oRd rb s p 0 bd::M) w) :
 Calls Tryz.prog 30 #[pPs rb,i64 er,i64 q] w (fun e w'=>∃ v L',e=.returned v∧Sy wb L' w'∧(v=.tuple #[]∧L'=oRd rb s p er q::M)):=by
 refine enterB (args:=[pPs rb,i64 er,i64 q]) Tryz.func30 rfl Tryz.ntmps30 (congrArg Array.toList Tryz.results30) (by kernel_rfl) (by simp) hw ?_
 refine sp ?_
 refine lOn Shp.eq mem0 rfl ?_
 refine sp ?_
 rw[Vc]
 refine sp ?_
 refine cdD (fun _=>?_) (fun h=>absurd trivial h)
 refine sp ?_
 refine sXa 0 rfl Siz.eq rfl rfl ?_
 refine sp ?_
 refine sXa 0 rfl Siz.eq rfl rfl ?_
 refine sp ?_
 exact fun w' hw'=>⟨_,_,rfl,hw',rfl,rfl⟩
theorem failR_no (w:World) (rb:Nat) (s:List UInt8) (p:Nat) (bd:Nat) (er e0:Int) (q:Nat) (he:e0≠0) (hat:At w rb 0 [str s,i64 p,i64 e0,i64 bd]) :
 Calls Tryz.prog 30 #[pPs rb,i64 er,i64 q] w (Rets w (Is (.tuple #[]))):=by
 refine enterT (args:=[pPs rb,i64 er,i64 q]) Tryz.func30 rfl Tryz.ntmps30 (congrArg Array.toList Tryz.results30) (by kernel_rfl) (by simp) (Sy.refl w) ?_
 refine sp ?_
 refine ldF Shp.eq (hat.sub 2 [i64 e0] rfl) (by simp) ?_
 refine sp ?_
 rw[Vc]
 refine sp ?_
 refine cdD (fun h=>absurd h he) (fun _=>?_)
 refine sp ?_
 exact finIs (by simp) rfl
theorem isR_walk (w:World) (rb:Nat) (s:List UInt8) (p:Nat) (e0:Int) (bd:Nat) (c:UInt8) (ci:Int) (hc:ci=c.toNat) (hat:At w rb 0 [str s,i64 p,i64 e0,i64 bd]) :
 Calls Tryz.prog 96 #[pPs rb,.int .u8 ci] w (Rets w (Is (.bool (decide (s[p]?=some c))))):=by
 subst hc
 refine enterT (args:=[pPs rb,.int .u8 (c.toNat:Int)]) Tryz.func96 rfl Tryz.ntmps96 (congrArg Array.toList Tryz.results96) (by kernel_rfl) (by simp) (Sy.refl w) ?_
 have a0:At w rb 0 [str s]:=hat.sub 0 [str s] rfl
 have a1:At w rb 1 [i64 p]:=hat.sub 1 [i64 p] rfl
 refine sp ?_
 refine drawQT (by kernel_rfl) (by kernel_rfl) mixed (by kernel_rfl) ?_
 refine sp ?_
 refine ldF Shp.eq a1 (by simp) ?_
 refine sp ?_
 refine ldF Shp.eq a0 (by simp) ?_
 refine sp ?_
 refine gT rfl (fun hlt=>?_) (fun hge=>?_)
 ·have hg:((s.getD p 0).toNat:Int)=c.toNat↔s[p]?=some c:=by
   rw[getD_at (by omega:p < s.length)]
   constructor
   ·intro e
    rw[UInt8.toNat_inj.1 (by omega:(s.getD p 0).toNat=c.toNat)]
   ·intro e
    rw[Option.some.inj e]
  refine sp ?_
  refine ldF Shp.eq a0 (by simp) ?_
  refine sp ?_
  refine ldF Shp.eq a1 (by simp) ?_
  refine sp ?_
  exact finIs (by simp) (by rw[decide_eq_decide.2 hg])
 ·refine sp ?_
  exact finIs (by simp) (by rw[decide_eq_false]; rw[List.getElem?_eq_none (by omega)]; simp)
end Go.Proofs.YtilejcofleeeiaaGreatDoor
