/- YtilejcofleeeiaaGreatDoor: walks, part 85: does a value fit a field, and what it weighs. -/
import Derived.Test.YtilejcofleeeiaaGreatDoorW84
namespace Go.Proofs.YtilejcofleeeiaaGreatDoor
open Go Go.K
open Nat renaming reduceEqDiff → qE
open List renaming mem_cons → qM, getElem?_eq_getElem → qH
set_option maxRecDepth 100000
set_option linter.unusedVariables false
set_option linter.unusedSimpArgs false
set_option maxHeartbeats 2000000
theorem TabsAt.mono {w w':World} {L:Own} (h:TabsAt w) (hs:Sy w L w') (hn:∀ p∈L,w.heap.size≤p.1):TabsAt w':=Utf8Tabs_below h (hs.end hn).below
abbrev fitO (bx:Nat) (z:Int):Nat×Obj:=(bx,Obj.cells #[i64 z] 89 (0,0))
def FitR (bx:Nat) (z:Int) (wt:Nat) (fit:Bool) (wb:World) (R:Own):Ending→World→Prop:=fun e w'=>e=.returned (.bool (fit && decide ((wt:Int)≤z)))∧∃ z',((fit && decide ((wt:Int)≤z))=true→z'=z - wt)∧Sy wb (fitO bx z'::R) w'
def FitsOK (d:Nat):Prop:=∀ (wb w:World) (lo:Nat) (bx:Nat) (z:Int) (R:Own) (f:Fld) (v:Vl) (a va:Option Addr) (c vc:Nat),TabsAt wb→lo≤wb.heap.size→okD d f→FlAt wb lo f a c→VAt wb lo v va vc→0≤z→z≤4194304→(∀ p∈fitO bx z::R,wb.heap.size≤p.1)→Sy wb (fitO bx z::R) w →
 Calls Tryz.prog 45 #[.pointer (some ⟨bx,0,none⟩),.agg (f.cells a c).toArray,.agg (v.cells va vc).toArray] w (FitR bx z (wV v) (fitD d f v) wb R)
theorem fitD_long (d:Nat) (f:Fld) (v:Vl) (h:¬ v.ls.length≤4096):fitD (d+1) f v=false:=by rw[fitD]; simp[h]
theorem perm4 {α:Type} (a b c x:α) (R:List α):(a::b::c::x::R).Perm (x::a::b::c::R):=List.perm_middle (l₁:=[a,b,c])
theorem fin_fit {bx:Nat} {z z':Int} {wt:Nat} {fit:Bool} {wb:World} {R A:Own} {u:Value} (hA:∀ p∈A,wb.heap.size≤p.1) (hz':(fit && decide ((wt:Int)≤z))=true→z'=z - wt) (hu:u=.bool (fit && decide ((wt:Int)≤z))) :
 ∀ w',Sy wb (A++fitO bx z'::R) w'→FitR bx z wt fit wb R (.returned u) w':=fun w' hw=>⟨by rw[hu],z',hz',hw.left hA⟩
theorem FlAt.get {w:World} {lo:Nat} {f g:Fld} {a:Option Addr} {c i:Nat} (h:FlAt w lo f a c) (hi:f.sub[i]?=some g):∃ b off ga gc,a=some ⟨b,off,none⟩∧b < lo∧At w b (off+i * 7) (g.cells ga gc)∧FlAt w lo g ga gc:=by
 obtain ⟨f0,l0,hfl⟩:∃ x l,f.sub=x::l:=List.exists_cons_of_ne_nil (fun h0=>by rw[h0] at hi; simp at hi)
 have hr:=h.hr
 rw[hfl] at hr
 obtain ⟨b',off,rfl,hb'⟩:=hr.some_of
 rw[← hfl] at hr
 obtain ⟨ga,gc,y1,y2,y3,y4,y5,y6⟩:=hr.get i hi
 exact ⟨b',off,ga,gc,rfl,y1,y2,y6,y3,y5⟩
theorem VAt.get {w:World} {lo:Nat} {v x:Vl} {a:Option Addr} {c i:Nat} (h:VAt w lo v a c) (hi:v.ls[i]?=some x):∃ b off xa xc,a=some ⟨b,off,none⟩∧b < lo∧At w b (off+i * 4) (x.cells xa xc)∧VAt w lo x xa xc:=by
 obtain ⟨f0,l0,hfl⟩:∃ x l,v.ls=x::l:=List.exists_cons_of_ne_nil (fun h0=>by rw[h0] at hi; simp at hi)
 have hr:=h.hr
 rw[hfl] at hr
 obtain ⟨b',off,rfl,hb'⟩:=hr.some_of
 rw[← hfl] at hr
 obtain ⟨xa,xc,y1,y2,y3⟩:=hr.get i hi
 exact ⟨b',off,xa,xc,rfl,y1,y2,y3⟩
theorem forgetG {v:Value} {E:Env} {d:Nat} {want:Bool} {A B:Env→Prop} (F:Env→Prop) (hF:F E) (h:∀ e,F e→GuardX v e d want (tag A) (tag B)):GuardX v E d want (tag A) (tag B):=h E hF
theorem fin_fit2 {bx:Nat} {z z':Int} {wt:Nat} {fit:Bool} {wb:World} {R A:Own} {u:Value} (hA:∀ p∈A,wb.heap.size≤p.1) (hz':(fit && decide ((wt:Int)≤z))=true→z'=z - wt) (hu:u=.bool (fit && decide ((wt:Int)≤z))) :
 ∀ w',Sy wb (fitO bx z'::(A++R)) w'→FitR bx z wt fit wb R (.returned u) w':=fun w' hw=>⟨by rw[hu],z',hz',hw.mid [fitO bx z'] A hA⟩
def itemsD (d:Nat) (f:Fld) (l:List Vl):Bool:=decide (f.k=16→(l.length:Int)=f.wd) && (decide (f.k=17→l.length=f.sub.length) && (List.range l.length).all fun i=>match f.sub[childN f i]?,l[i]? with|some g,some x=>fitD d g x|_,_=>false)
def ItemsOK (d:Nat):Prop:=∀ (wb w:World) (lo:Nat) (bx:Nat) (z:Int) (R:Own) (f:Fld) (v:Vl) (a va:Option Addr) (c vc:Nat),TabsAt wb→lo≤wb.heap.size→okD (d+1) f→(f.k=15∨f.k=16∨f.k=17)→FlAt wb lo f a c→VAt wb lo v va vc→0≤z→z≤4194304→(∀ p∈fitO bx z::R,wb.heap.size≤p.1)→v.ls.length≤4096→Sy wb (fitO bx z::R) w →
 Calls Tryz.prog 80 #[.pointer (some ⟨bx,0,none⟩),.agg #[i64 f.k,i64 f.wd,i64 f.id,i64 f.ix,.slice a f.sub.length c],.slice va v.ls.length vc] w (FitR bx z (wL v.ls) (itemsD d f v.ls) wb R)
theorem fits_step (d:Nat) (hF:FitsOK d) (hI:ItemsOK d):FitsOK (d+1):=by
 intro wb w lo bx z R f v a va c vc hTb hlo hok hA hV hz0 hz hR hw
 refine enterB (args:=[.pointer (some ⟨bx,0,none⟩),.agg (f.cells a c).toArray,.agg (v.cells va vc).toArray]) Tryz.func45 rfl Tryz.ntmps45 (congrArg Array.toList Tryz.results45) (by kernel_rfl) (by simp) hw ?_
 simp (disch:=omega) only[push_cast,qE,Fld.cells,Vl.cells]
 refine newI (fun b4 hb4 hn4=>?_)
 simp (disch:=omega) only[push_cast,qE,Fld.cells,Vl.cells]
 refine newI (fun b5 hb5 hn5=>?_)
 simp (disch:=omega) only[push_cast,qE,Fld.cells,Vl.cells]
 have hL2:∀ x y:Obj,∀ p∈[(b5,x),(b4,y)],wb.heap.size≤p.1:=fun x y p hp=>by
  simp only[qM,List.mem_nil_iff,or_false] at hp
  rcases hp with rfl|rfl
  ·exact hb5
  ·exact hb4
 have hL3:∀ (x y:Obj) (z:Int),∀ p∈(b5,x)::(b4,y)::fitO bx z::R,wb.heap.size≤p.1:=fun x y z9 p hp=>by
  simp only[qM] at hp
  rcases hp with rfl|rfl|rfl|hp
  ·exact hb5
  ·exact hb4
  ·exact hR (fitO bx z) (.head _)
  ·exact hR p (.tail _ hp)
 refine lOn Shp.eq (.tail _ (.tail _ (.head _))) rfl ?_
 simp (disch:=omega) only[push_cast,qE,Fld.cells,Vl.cells]
 refine sXa 2 rfl Siz.eq rfl rfl ?_
 simp (disch:=omega) only[push_cast,qE,Fld.cells,Vl.cells]
 refine drawQT (by kernel_rfl) (by kernel_rfl) mixed (by kernel_rfl) ?_
 simp (disch:=omega) only[push_cast,qE,Fld.cells,Vl.cells]
 refine lOn Shp.eq (.tail _ (.tail _ (.head _))) rfl ?_
 simp (disch:=omega) only[push_cast,qE,Fld.cells,Vl.cells]
 refine gF rfl (fun hg1=>?_) (fun hg1=>?_)
 rotate_left
 ·simp (disch:=omega) only[push_cast,qE,Fld.cells,Vl.cells]
  rw[Vc]
  simp (disch:=omega) only[push_cast,qE,Fld.cells,Vl.cells]
  exact fin_fit (A:=[_,_]) (hL2 _ _) (u:=.bool false) (by simp[wV_eq]; omega) (by simp[wV_eq]; omega)
 simp (disch:=omega) only[push_cast,qE,Fld.cells,Vl.cells]
 refine lOn Shp.eq (.head _) rfl ?_
 simp (disch:=omega) only[push_cast,qE,Fld.cells,Vl.cells]
 refine lOn Shp.eq (.tail _ (.tail _ (.head _))) rfl ?_
 simp (disch:=omega) only[push_cast,qE,Fld.cells,Vl.cells]
 refine gF rfl (fun hg2=>?_) (fun hg2=>?_)
 rotate_left
 ·simp (disch:=omega) only[push_cast,qE,Fld.cells,Vl.cells]
  rw[Vc]
  simp (disch:=omega) only[push_cast,qE,Fld.cells,Vl.cells]
  exact fin_fit (A:=[_,_]) (hL2 _ _) (by simp[wV_eq]; omega) (by simp[wV_eq]; omega)
 simp (disch:=omega) only[push_cast,qE,Fld.cells,Vl.cells]
 refine lOn Shp.eq (.head _) rfl ?_
 simp (disch:=omega) only[push_cast,qE,Fld.cells,Vl.cells]
 rw[Vc]
 simp (disch:=omega) only[push_cast,qE,Fld.cells,Vl.cells]
 refine cdD (fun hg3=>?_) (fun hg3=>?_)
 ·simp (disch:=omega) only[push_cast,qE,Fld.cells,Vl.cells]
  have hfl:=fitD_long d f v (by omega)
  exact fin_fit (A:=[_,_]) (hL2 _ _) (by rw[hfl]; simp) (by rw[hfl]; rfl)
 simp (disch:=omega) only[push_cast,qE,Fld.cells,Vl.cells]
 refine drawTT 10 (by kernel_rfl) (by kernel_rfl) mixed (by kernel_rfl) rfl rfl ?_
 simp (disch:=omega) only[push_cast,qE,Fld.cells,Vl.cells]
 refine lOn Shp.eq (.tail _ (.tail _ (.head _))) rfl ?_
 simp (disch:=omega) only[push_cast,qE,Fld.cells,Vl.cells]
 refine lOn Shp.eq (.head _) rfl ?_
 simp (disch:=omega) only[push_cast,qE,Fld.cells,Vl.cells]
 refine sXa 2 rfl Siz.eq rfl rfl ?_
 simp (disch:=omega) only[push_cast,qE,Fld.cells,Vl.cells]
 refine lOn Shp.eq (.head _) rfl ?_
 simp (disch:=omega) only[push_cast,qE,Fld.cells,Vl.cells]
 have hz1:16+v.tx.length≤z:=by omega
 refine forget (fun e=>e 0=.pointer (some ⟨bx,0,none⟩)∧e 4=.pointer (some ⟨b4,0,none⟩)∧e 5=.pointer (some ⟨b5,0,none⟩)∧e 47=.bool v.nu) ⟨rfl,rfl,rfl,rfl⟩ ?_
 rintro e ⟨h0,h4,h5,h47⟩
 rw[Vc]
 simp (disch:=omega) only[push_cast,qE,h0,h4,h5,h47]
 refine cdB (fun hnu=>?_) (fun hnu=>?_)
 ·

  simp (disch:=omega) only[push_cast,qE,h0,h4,h5,h47]
  refine lOn Shp.eq (.head _) rfl ?_
  simp (disch:=omega) only[push_cast,qE,h0,h4,h5,h47]
  refine gT rfl (fun hn0=>?_) (fun hn0=>?_)
  rotate_left
  ·simp (disch:=omega) only[push_cast,qE,h0,h4,h5,h47]
   have hfd:fitD (d+1) f v=false:=by rw[fitD]; simp[hnu,hn0]
   exact fin_fit (A:=[_,_]) (hL2 _ _) (by rw[hfd]; simp) (by rw[hfd]; rfl)
  simp (disch:=omega) only[push_cast,qE,h0,h4,h5,h47]
  refine lOn Shp.eq (.head _) rfl ?_
  simp (disch:=omega) only[push_cast,qE,h0,h4,h5,h47]
  refine gT rfl (fun hn1=>?_) (fun hn1=>?_)
  rotate_left
  ·simp (disch:=omega) only[push_cast,qE,h0,h4,h5,h47]
   have hfd:fitD (d+1) f v=false:=by rw[fitD]; simp[hnu,hn1]
   exact fin_fit (A:=[_,_]) (hL2 _ _) (by rw[hfd]; simp) (by rw[hfd]; rfl)
  simp (disch:=omega) only[push_cast,qE,h0,h4,h5,h47]
  refine lOn Shp.eq (.head _) rfl ?_
  simp (disch:=omega) only[push_cast,qE,h0,h4,h5,h47]
  refine gT rfl (fun hn2=>?_) (fun hn2=>?_)
  rotate_left
  ·simp (disch:=omega) only[push_cast,qE,h0,h4,h5,h47]
   have hfd:fitD (d+1) f v=false:=by rw[fitD]; simp[hnu]; intros; exact absurd (by simp_all) hn2
   exact fin_fit (A:=[_,_]) (hL2 _ _) (by rw[hfd]; simp) (by rw[hfd]; rfl)
  simp (disch:=omega) only[push_cast,qE,h0,h4,h5,h47]
  refine lAg Shp.eq (.tail _ (.head _)) rfl rfl ?_
  simp (disch:=omega) only[push_cast,qE,h0,h4,h5,h47]
  refine callV en_69 (cIs (fun w' hw'=>lets_walk w' lo (Nat.le_trans hlo hw'.size) f a c (hA.sy hlo hw' (hL3 _ _ _))) ?_)
  simp (disch:=omega) only[push_cast,qE,h0,h4,h5,h47]
  have hls:v.ls=[]:=List.eq_nil_of_length_eq_zero (by omega)
  have hfd:fitD (d+1) f v=letsP f:=by rw[fitD]; simp[hnu,hn0,hn1,hls]
  have hwt:wV v≤z:=by rw[wV_eq,hls,hn1]; simp[wL]; omega
  exact fin_fit (A:=[_,_]) (hL2 _ _) (by rw[wV_eq,hls,hn1]; simp[wL,hn1]) (by rw[hfd]; simp[hwt])

 simp (disch:=omega) only[push_cast,qE,h0,h4,h5,h47]
 refine lAg Shp.eq (.tail _ (.head _)) rfl rfl ?_
 simp (disch:=omega) only[push_cast,qE,h0,h4,h5,h47]
 refine newI (fun b7 hb7 hn7=>?_)
 simp (disch:=omega) only[push_cast,qE,h0,h4,h5,h47]
 refine sXa 0 rfl Siz.eq rfl rfl ?_
 simp (disch:=omega) only[push_cast,qE,h0,h4,h5,h47]
 refine lOn Shp.eq mem0 rfl ?_
 simp (disch:=omega) only[push_cast,qE,h0,h4,h5,h47]
 rw[Vb]
 have hL4:∀ x y z:Obj,∀ p∈[(b7,x),(b5,y),(b4,z)],wb.heap.size≤p.1:=fun x y z p hp=>by
  simp only[qM,List.mem_nil_iff,or_false] at hp
  rcases hp with rfl|rfl|rfl
  ·exact hb7
  ·exact hb5
  ·exact hb4
 have hL5:∀ (x y u:Obj) (z:Int),∀ p∈(b7,x)::(b5,y)::(b4,u)::fitO bx z::R,wb.heap.size≤p.1:=fun x y u z9 p hp=>by
  rcases List.mem_cons.1 hp with rfl|hp
  ·exact hb7
  ·exact hL3 _ _ _ p hp
 have hR2:∀ (z:Int) (x y u:Obj),∀ p∈fitO bx z::(b7,x)::(b5,y)::(b4,u)::R,wb.heap.size≤p.1:=fun z9 x y u p hp=>by
  simp only[qM] at hp
  rcases hp with rfl|rfl|rfl|rfl|hp
  ·exact hR (fitO bx z) (.head _)
  ·exact hb7
  ·exact hb5
  ·exact hb4
  ·exact hR p (.tail _ hp)
 obtain ⟨hsh,hsub⟩:=(show shapedF f∧∀ g∈f.sub,okD d g from hok)
 refine forget (fun e=>e 0=.pointer (some ⟨bx,0,none⟩)∧e 4=.pointer (some ⟨b4,0,none⟩)∧e 5=.pointer (some ⟨b5,0,none⟩)∧e 7=.pointer (some ⟨b7,0,none⟩)∧e 69=i64 f.k) ⟨h0,h4,h5,rfl,rfl⟩ ?_
 clear h0 h4 h5 h47
 clear e
 rintro e ⟨h0,h4,h5,h7,h69⟩
 by_cases hkA:f.k=19∨f.k=20
 ·

  have hlen:f.sub.length=1:=by
   have h1:=hsh.2.2.2
   rcases hkA with hk|hk<;>rw[hk] at h1<;>simp[leastK,mostK] at h1<;>omega
  obtain ⟨g,hg⟩:∃ g,f.sub[0]?=some g:=⟨_,qH (by omega)⟩
  obtain ⟨b',off,ga,gc,rfl,y1,y2,y6⟩:=hA.get hg
  have hfe:fitD (d+1) f v=fitD d g v:=by rw[fitD]; simp[hnu,hkA,hg]; intros; omega
  rcases hkA with hk|hk<;>rw[hk] at h69<;>simp (disch:=omega) only[push_cast,qE,h0,h4,h5,h7,h69]<;>((try rw[Vc]); (try simp (disch:=omega) only[push_cast,qE,h0,h4,h5,h7,h69]); (refine cdD (fun h9=>?_) (fun h9=>?_)<;>first|(exfalso; first|omega|exact h9 trivial)|((try clear h9); try simp (disch:=omega) only[push_cast,qE,h0,h4,h5,h7,h69])))<;>((try rw[Vc]); (try simp (disch:=omega) only[push_cast,qE,h0,h4,h5,h7,h69]); (refine cdD (fun h9=>?_) (fun h9=>?_)<;>first|(exfalso; first|omega|exact h9 trivial)|((try clear h9); try simp (disch:=omega) only[push_cast,qE,h0,h4,h5,h7,h69])))
  all_goals refine drawTT 11 (by kernel_rfl) (by kernel_rfl) mixed (by kernel_rfl) rfl rfl ?_
  all_goals simp (disch:=omega) only[push_cast,qE,h0,h4,h5,h7,h69]
  all_goals refine lOn Shp.eq mem3 rfl ?_
  all_goals simp (disch:=omega) only[push_cast,qE,h0,h4,h5,h7,h69]
  all_goals refine lOn Shp.eq mem1 rfl ?_
  all_goals simp (disch:=omega) only[push_cast,qE,h0,h4,h5,h7,h69]
  all_goals refine sXa 3 rfl Siz.eq rfl rfl ?_
  all_goals simp (disch:=omega) only[push_cast,qE,h0,h4,h5,h7,h69]
  all_goals refine drawTT 6 (by kernel_rfl) (by kernel_rfl) mixed (by kernel_rfl) rfl rfl ?_
  all_goals simp (disch:=omega) only[push_cast,qE,h0,h4,h5,h7,h69]
  all_goals refine lOn Shp.eq mem0 rfl ?_
  all_goals simp (disch:=omega) only[push_cast,qE,h0,h4,h5,h7,h69]
  all_goals refine ldAggF Shp.eq y2 rfl (out_of (fun p hp=>Nat.lt_of_lt_of_le (Nat.lt_of_lt_of_le y1 hlo) (hL5 _ _ _ _ p hp))) ?_
  all_goals simp (disch:=omega) only[push_cast,qE,h0,h4,h5,h7,h69,Fld.cells]
  all_goals refine lAg Shp.eq mem1 rfl rfl ?_
  all_goals simp (disch:=omega) only[push_cast,qE,h0,h4,h5,h7,h69,Fld.cells]
  all_goals rw[show z - 16 - (v.tx.length:Int)+(16+v.tx.length)=z by omega]
  all_goals refine callV en_45 (callX_base (fun w' hw'=>hF wb w' lo bx z _ g v ga _ gc vc hTb hlo (hsub g (List.mem_of_getElem? hg)) y6 hV hz0 hz (hR2 z _ _ _) (hw'.perm (perm4 _ _ _ _ R))) ?_)
  all_goals rintro e' w' ⟨rfl,z',hz',hs⟩
  all_goals refine ⟨_,_,rfl,hs,?_⟩
  all_goals simp (disch:=omega) only[push_cast,qE,h0,h4,h5,h7,h69]
  all_goals
   rw[hfe]
   exact fin_fit2 (A:=[_,_,_]) (hL4 _ _ _) hz' rfl

 by_cases hkB:f.k=18
 ·

  rw[hkB] at h69
  simp (disch:=omega) only[push_cast,qE,h0,h4,h5,h7,h69]
  ((try rw[Vc]); (try simp (disch:=omega) only[push_cast,qE,h0,h4,h5,h7,h69]); (refine cdD (fun h9=>?_) (fun h9=>?_)<;>first|(exfalso; first|omega|exact h9 trivial)|((try clear h9); try simp (disch:=omega) only[push_cast,qE,h0,h4,h5,h7,h69])))
  ((try rw[Vc]); (try simp (disch:=omega) only[push_cast,qE,h0,h4,h5,h7,h69]); (refine cdD (fun h9=>?_) (fun h9=>?_)<;>first|(exfalso; first|omega|exact h9 trivial)|((try clear h9); try simp (disch:=omega) only[push_cast,qE,h0,h4,h5,h7,h69])))
  ((try rw[Vc]); (try simp (disch:=omega) only[push_cast,qE,h0,h4,h5,h7,h69]); (refine cdD (fun h9=>?_) (fun h9=>?_)<;>first|(exfalso; first|omega|exact h9 trivial)|((try clear h9); try simp (disch:=omega) only[push_cast,qE,h0,h4,h5,h7,h69])))
  refine drawTT 34 (by kernel_rfl) (by kernel_rfl) mixed (by kernel_rfl) rfl rfl ?_
  simp (disch:=omega) only[push_cast,qE,h0,h4,h5,h7,h69]
  refine lOn Shp.eq mem1 rfl ?_
  simp (disch:=omega) only[push_cast,qE,h0,h4,h5,h7,h69]
  refine gT rfl (fun hn0=>?_) (fun hn0=>?_)
  rotate_left
  ·have hfd:fitD (d+1) f v=false:=by rw[fitD]; simp[hnu,hkB,hn0]
   simp (disch:=omega) only[push_cast,qE,h0,h4,h5,h7,h69]
   rw[hfd]
   exact fin_fit (A:=[_,_,_]) (hL4 _ _ _) (by simp) rfl
  simp (disch:=omega) only[push_cast,qE,h0,h4,h5,h7,h69]
  refine lOn Shp.eq mem1 rfl ?_
  simp (disch:=omega) only[push_cast,qE,h0,h4,h5,h7,h69]
  refine gT rfl (fun hn1=>?_) (fun hn1=>?_)
  rotate_left
  ·have hfd:fitD (d+1) f v=false:=by rw[fitD]; simp[hnu,hkB,hn0]; intros; omega
   simp (disch:=omega) only[push_cast,qE,h0,h4,h5,h7,h69]
   rw[hfd]
   exact fin_fit (A:=[_,_,_]) (hL4 _ _ _) (by simp) rfl
  simp (disch:=omega) only[push_cast,qE,h0,h4,h5,h7,h69]
  refine lOn Shp.eq mem1 rfl ?_
  simp (disch:=omega) only[push_cast,qE,h0,h4,h5,h7,h69]
  refine lOn Shp.eq mem0 rfl ?_
  simp (disch:=omega) only[push_cast,qE,h0,h4,h5,h7,h69]
  refine forgetG (fun e=>e 0=.pointer (some ⟨bx,0,none⟩)∧e 5=.pointer (some ⟨b5,0,none⟩)∧e 7=.pointer (some ⟨b7,0,none⟩)∧e 109=.bool (decide (v.num < f.sub.length))) ⟨h0,h5,h7,rfl⟩ ?_
  clear h0 h4 h5 h7 h69 e
  rintro e ⟨h0,h5,h7,h109⟩
  refine gT h109 (fun hn2=>?_) (fun hn2=>?_)
  rotate_left
  ·have hfd:fitD (d+1) f v=false:=by rw[fitD]; simp[hnu,hkB,hn0]; intros; omega
   simp (disch:=omega) only[push_cast,qE,h0,h5,h7]
   rw[hfd]
   exact fin_fit (A:=[_,_,_]) (hL4 _ _ _) (by simp) rfl
  simp (disch:=omega) only[push_cast,qE,h0,h5,h7]
  refine lOn Shp.eq mem1 rfl ?_
  simp (disch:=omega) only[push_cast,qE,h0,h5,h7]
  refine gT rfl (fun hn3=>?_) (fun hn3=>?_)
  rotate_left
  ·have hfd:fitD (d+1) f v=false:=by rw[fitD]; simp[hnu,hkB,hn0]; intros; omega
   simp (disch:=omega) only[push_cast,qE,h0,h5,h7]
   rw[hfd]
   exact fin_fit (A:=[_,_,_]) (hL4 _ _ _) (by simp) rfl
  obtain ⟨g,hg⟩:∃ g,f.sub[v.num.toNat]?=some g:=⟨_,qH (by omega)⟩
  obtain ⟨x,hx⟩:∃ x,v.ls=[x]:=by
   match h:v.ls,hn3 with
   | [x],_=>exact ⟨x,rfl⟩
   | [],h3=>simp at h3
   | _::_::_,h3=>simp at h3; omega
  have hx0:v.ls[0]?=some x:=by rw[hx]; rfl
  obtain ⟨gb,goff,ga,gc,rfl,g1,g2,g3⟩:=hA.get hg
  obtain ⟨xb,xoff,xa,xc,rfl,x1,x2,x3⟩:=hV.get hx0
  have hl1:v.ls.length=1:=by rw[hx]; rfl
  simp (disch:=omega) only[push_cast,qE,h0,h5,h7]
  refine lOn Shp.eq mem0 rfl ?_
  simp (disch:=omega) only[push_cast,qE,h0,h5,h7]
  refine lOn Shp.eq mem1 rfl ?_
  simp (disch:=omega) only[push_cast,qE,h0,h5,h7]
  refine ldAggF Shp.eq g2 rfl (out_of (fun p hp=>Nat.lt_of_lt_of_le (Nat.lt_of_lt_of_le g1 hlo) (hL5 _ _ _ _ p hp))) ?_
  simp (disch:=omega) only[push_cast,qE,h0,h5,h7,Fld.cells]
  refine lOn Shp.eq mem1 rfl ?_
  simp (disch:=omega) only[push_cast,qE,h0,h5,h7]
  refine ldAggF Shp.eq x2 rfl (out_of (fun p hp=>Nat.lt_of_lt_of_le (Nat.lt_of_lt_of_le x1 hlo) (hL5 _ _ _ _ p hp))) ?_
  simp (disch:=omega) only[push_cast,qE,h0,h5,h7,Vl.cells]
  refine callV en_45 (callX_base (fun w' hw'=>hF wb w' lo bx (z - 16 - v.tx.length) _ g x ga xa gc xc hTb hlo (hsub g (List.mem_of_getElem? hg)) g3 x3 (by omega) (by omega) (hR2 _ _ _ _) (hw'.perm (perm4 _ _ _ _ R))) ?_)
  rintro e' w' ⟨rfl,z',hz',hs⟩
  refine ⟨_,_,rfl,hs,?_⟩
  simp (disch:=omega) only[push_cast,qE,h0,h5,h7]
  have hfd:fitD (d+1) f v=fitD d g x:=by
   rw[fitD,if_neg (by simp[hnu]),if_neg hkA,if_pos hkB,decide_eq_true (by omega:v.ls.length≤4096),decide_eq_true hn0,decide_eq_true hn1,decide_eq_true hn2,decide_eq_true hl1,hg,hx0]
   rfl
  have hwt:(wV v:Int)=16+v.tx.length+wV x:=by rw[wV_eq,hx]; simp[wL]
  have hdd:decide ((wV v:Int)≤z)=decide ((wV x:Int)≤z - 16 - v.tx.length):=decide_eq_decide.2 (by omega)
  exact fin_fit2 (A:=[_,_,_]) (hL4 _ _ _) (by rw[hfd,hdd]; intro h; have:=hz' h; omega) (by rw[hfd,hdd])

 by_cases hkC:f.k=15∨f.k=16∨f.k=17
 ·

  have hfe:fitD (d+1) f v=(decide (v.num=0) && (decide (v.tx=[]) && itemsD d f v.ls)):=by
   rw[fitD,if_neg (by simp[hnu]),if_neg hkA,if_neg hkB,if_pos hkC,decide_eq_true (by omega:v.ls.length≤4096),Bool.true_and,itemsD]
   rfl
  have hkC':=hkC
  rcases hkC with hk|hk|hk<;>rw[hk] at h69<;>simp (disch:=omega) only[push_cast,qE,h0,h4,h5,h7,h69]
  all_goals repeat ((try rw[Vc]); (try simp (disch:=omega) only[push_cast,qE,h0,h4,h5,h7,h69]); (refine cdD (fun h9=>?_) (fun h9=>?_)<;>first|(exfalso; first|omega|exact h9 trivial)|((try clear h9); try simp (disch:=omega) only[push_cast,qE,h0,h4,h5,h7,h69])))
  all_goals refine lOn Shp.eq mem1 rfl ?_
  all_goals simp (disch:=omega) only[push_cast,qE,h0,h4,h5,h7,h69]
  all_goals
   refine forgetG (fun e=>e 0=.pointer (some ⟨bx,0,none⟩)∧e 5=.pointer (some ⟨b5,0,none⟩)∧e 7=.pointer (some ⟨b7,0,none⟩)∧e 136=.bool (decide (v.num=0))) ⟨h0,h5,h7,rfl⟩ ?_
   rintro e ⟨h0,h5,h7,h136⟩
   refine gT h136 (fun hn0=>?_) (fun hn0=>?_)
   rotate_left
   ·simp (disch:=omega) only[push_cast,qE,h0,h5,h7]
    rw[hfe,decide_eq_false hn0,Bool.false_and]
    exact fin_fit (A:=[_,_,_]) (hL4 _ _ _) (by simp) rfl
   simp (disch:=omega) only[push_cast,qE,h0,h5,h7]
   refine lOn Shp.eq mem1 rfl ?_
   simp (disch:=omega) only[push_cast,qE,h0,h5,h7]
   refine gT rfl (fun hn1=>?_) (fun hn1=>?_)
   rotate_left
   ·simp (disch:=omega) only[push_cast,qE,h0,h5,h7]
    rw[hfe,decide_eq_true hn0,decide_eq_false hn1,Bool.false_and]
    exact fin_fit (A:=[_,_,_]) (hL4 _ _ _) (by simp) rfl
   simp (disch:=omega) only[push_cast,qE,h0,h5,h7]
   refine lAg Shp.eq mem0 rfl rfl ?_
   simp (disch:=omega) only[push_cast,qE,h0,h5,h7]
   refine lOn Shp.eq mem1 rfl ?_
   simp (disch:=omega) only[push_cast,qE,h0,h5,h7]
   refine callV en_80 (callX_base (fun w' hw'=>hI wb w' lo bx (z - 16 - v.tx.length) _ f v a va c vc hTb hlo hok hkC' hA hV (by omega) (by omega) (hR2 _ _ _ _) (by omega) (hw'.perm (perm4 _ _ _ _ R))) ?_)
   rintro e' w' ⟨rfl,z',hz',hs⟩
   refine ⟨_,_,rfl,hs,?_⟩
   simp (disch:=omega) only[push_cast,qE,h0,h5,h7]
   have hfd:fitD (d+1) f v=itemsD d f v.ls:=by rw[hfe,decide_eq_true hn0,decide_eq_true hn1]; rfl
   have hdd:decide ((wV v:Int)≤z)=decide ((wL v.ls:Int)≤z - 16 - v.tx.length):=decide_eq_decide.2 (by rw[wV_eq]; omega)
   exact fin_fit2 (A:=[_,_,_]) (hL4 _ _ _) (by rw[hfd,hdd,wV_eq]; intro h; have:=hz' h; omega) (by rw[hfd,hdd])

 by_cases hkD:f.k=12∨f.k=13∨f.k=14
 ·

  have hfe:fitD (d+1) f v=(decide (v.num=0) && (decide (v.ls.length=0) && ((!decide (f.k=12) || Lib.validD v.tx) && (!decide (f.k=14) || decide ((v.tx.length:Int)=f.wd))))):=by
   rw[fitD,if_neg (by simp[hnu]),if_neg hkA,if_neg hkB,if_neg hkC,if_pos hkD,decide_eq_true (by omega:v.ls.length≤4096),Bool.true_and]
  have hkD':=hkD
  rcases hkD with hk|hk|hk<;>rw[hk] at h69<;>simp (disch:=omega) only[push_cast,qE,h0,h4,h5,h7,h69]
  all_goals repeat ((try rw[Vc]); (try simp (disch:=omega) only[push_cast,qE,h0,h4,h5,h7,h69]); (refine cdD (fun h9=>?_) (fun h9=>?_)<;>first|(exfalso; first|omega|exact h9 trivial)|((try clear h9); try simp (disch:=omega) only[push_cast,qE,h0,h4,h5,h7,h69])))
  all_goals refine lOn Shp.eq mem1 rfl ?_
  all_goals simp (disch:=omega) only[push_cast,qE,h0,h4,h5,h7,h69]
  all_goals
   refine forgetG (fun e=>e 0=.pointer (some ⟨bx,0,none⟩)∧e 5=.pointer (some ⟨b5,0,none⟩)∧e 7=.pointer (some ⟨b7,0,none⟩)∧e 155=.bool (decide (v.num=0))) ⟨h0,h5,h7,rfl⟩ ?_
   rintro e ⟨h0,h5,h7,h155⟩
   refine gT h155 (fun hn0=>?_) (fun hn0=>?_)
   rotate_left
   ·simp (disch:=omega) only[push_cast,qE,h0,h5,h7]
    rw[hfe,decide_eq_false hn0,Bool.false_and]
    exact fin_fit (A:=[_,_,_]) (hL4 _ _ _) (by simp) rfl
   simp (disch:=omega) only[push_cast,qE,h0,h5,h7]
   refine lOn Shp.eq mem1 rfl ?_
   simp (disch:=omega) only[push_cast,qE,h0,h5,h7]
   refine gT rfl (fun hn1=>?_) (fun hn1=>?_)
   rotate_left
   ·simp (disch:=omega) only[push_cast,qE,h0,h5,h7]
    rw[hfe,decide_eq_true hn0,decide_eq_false (show ¬ v.ls.length=0 by omega),Bool.false_and]
    exact fin_fit (A:=[_,_,_]) (hL4 _ _ _) (by simp) rfl
   have hwt:(wV v:Int)=16+v.tx.length:=by rw[wV_eq,List.eq_nil_of_length_eq_zero (show v.ls.length=0 by omega)]; simp[wL]
   have hdd:decide ((wV v:Int)≤z)=true:=decide_eq_true (by omega)
   rw[decide_eq_true hn0,decide_eq_true (show v.ls.length=0 by omega),Bool.true_and,Bool.true_and] at hfe
   simp (disch:=omega) only[push_cast,qE,h0,h5,h7]
   refine lOn Shp.eq mem0 rfl ?_
   simp (disch:=omega) only[push_cast,qE,h0,h5,h7]
   refine forgetG (fun e=>e 5=.pointer (some ⟨b5,0,none⟩)∧e 7=.pointer (some ⟨b7,0,none⟩)∧e 161=.bool true∧e 165=.bool (decide (f.k≠12))) ⟨h5,h7,rfl,rfl⟩ ?_
   clear h0 h5 h7
   rintro e ⟨h5,h7,h161,h165⟩
   refine gF h165 (fun h12=>?_) (fun h12=>?_)
   ·have h12':f.k=12:=by omega
    simp (disch:=omega) only[push_cast,qE,h5,h7,h161]
    refine lOn Shp.eq mem1 rfl ?_
    simp (disch:=omega) only[push_cast,qE,h5,h7,h161]
    refine callV en_81 (cIs (fun w' hw'=>valid_walk w' (hTb.mono hw' (hL5 _ _ _ _)) v.tx hV.ht) ?_)
    simp (disch:=omega) only[push_cast,qE,h5,h7,h161]
    refine gbT rfl (fun hv=>?_) (fun hv=>?_)
    ·simp (disch:=omega) only[push_cast,qE,h5,h7,h161]
     refine lOn Shp.eq mem0 rfl ?_
     simp (disch:=omega) only[push_cast,qE,h5,h7,h161]
     refine gF rfl (fun h14=>absurd h14 (by omega)) (fun h14=>?_)
     simp (disch:=omega) only[push_cast,qE,h5,h7,h161]
     have hfd:fitD (d+1) f v=true:=by rw[hfe]; simp[hv,h12']
     exact fin_fit (A:=[_,_,_]) (hL4 _ _ _) (by rw[hfd,hdd]; omega) (by rw[hfd,hdd]; rfl)
    ·simp (disch:=omega) only[push_cast,qE,h5,h7,h161]
     have hfd:fitD (d+1) f v=false:=by rw[hfe]; simp[hv,h12']
     exact fin_fit (A:=[_,_,_]) (hL4 _ _ _) (by rw[hfd]; simp) (by rw[hfd]; rfl)
   ·simp (disch:=omega) only[push_cast,qE,h5,h7,h161]
    refine lOn Shp.eq mem0 rfl ?_
    simp (disch:=omega) only[push_cast,qE,h5,h7,h161]
    refine gF rfl (fun h14=>?_) (fun h14=>?_)
    ·simp (disch:=omega) only[push_cast,qE,h5,h7,h161]
     refine lOn Shp.eq mem1 rfl ?_
     simp (disch:=omega) only[push_cast,qE,h5,h7,h161]
     refine lOn Shp.eq mem0 rfl ?_
     simp (disch:=omega) only[push_cast,qE,h5,h7,h161]
     have h14':f.k=14:=by omega
     have hfd:fitD (d+1) f v=decide ((v.tx.length:Int)=f.wd):=by rw[hfe]; simp[h14']
     exact fin_fit (A:=[_,_,_]) (hL4 _ _ _) (by rw[hfd,hdd]; omega) (by rw[hfd,hdd,Bool.and_true])
    ·simp (disch:=omega) only[push_cast,qE,h5,h7,h161]
     have hfd:fitD (d+1) f v=true:=by rw[hfe]; simp[h12,h14]
     exact fin_fit (A:=[_,_,_]) (hL4 _ _ _) (by rw[hfd,hdd]; omega) (by rw[hfd,hdd]; rfl)

 have hfe:fitD (d+1) f v=(decide (v.tx=[]) && (decide (v.ls.length=0) && (if f.k=2 then decide (v.num=0∨v.num=1) else if f.k=11 then true else wholeP f.k && rangedP f.k v.num))):=by
  rw[fitD,if_neg (by simp[hnu]),if_neg hkA,if_neg hkB,if_neg hkC,if_neg hkD,decide_eq_true (by omega:v.ls.length≤4096),Bool.true_and]
 simp (disch:=omega) only[push_cast,qE,h0,h4,h5,h7,h69]
 repeat ((try rw[Vc]); (try simp (disch:=omega) only[push_cast,qE,h0,h4,h5,h7,h69]); (refine cdD (fun h9=>?_) (fun h9=>?_)<;>first|(exfalso; first|omega|exact h9 trivial)|((try clear h9); try simp (disch:=omega) only[push_cast,qE,h0,h4,h5,h7,h69])))
 refine lOn Shp.eq mem1 rfl ?_
 simp (disch:=omega) only[push_cast,qE,h0,h4,h5,h7,h69]
 refine forgetG (fun e=>e 5=.pointer (some ⟨b5,0,none⟩)∧e 7=.pointer (some ⟨b7,0,none⟩)∧e 187=.bool (decide (v.tx≠[]))) ⟨h5,h7,rfl⟩ ?_
 clear h0 h4 h5 h7 h69 e
 rintro e ⟨h5,h7,h187⟩
 refine gF h187 (fun hn0=>?_) (fun hn0=>?_)
 rotate_left
 ·simp (disch:=omega) only[push_cast,qE,h5,h7]
  rw[Vc]
  simp (disch:=omega) only[push_cast,qE,h5,h7]
  rw[hfe,decide_eq_false hn0,Bool.false_and]
  exact fin_fit (A:=[_,_,_]) (hL4 _ _ _) (by simp) rfl
 have hn0':v.tx=[]:=Decidable.not_not.1 hn0
 simp (disch:=omega) only[push_cast,qE,h5,h7]
 refine lOn Shp.eq mem1 rfl ?_
 simp (disch:=omega) only[push_cast,qE,h5,h7]
 rw[Vc]
 simp (disch:=omega) only[push_cast,qE,h5,h7]
 refine cdD (fun hn1=>?_) (fun hn1=>?_)
 ·simp (disch:=omega) only[push_cast,qE,h5,h7]
  rw[hfe,decide_eq_true hn0',decide_eq_false (show ¬ v.ls.length=0 by omega),Bool.false_and]
  exact fin_fit (A:=[_,_,_]) (hL4 _ _ _) (by simp) rfl
 have hwt:(wV v:Int)=16+v.tx.length:=by rw[wV_eq,List.eq_nil_of_length_eq_zero (show v.ls.length=0 by omega)]; simp[wL]
 have hdd:decide ((wV v:Int)≤z)=true:=decide_eq_true (by omega)
 rw[decide_eq_true hn0',decide_eq_true (show v.ls.length=0 by omega),Bool.true_and,Bool.true_and] at hfe
 simp (disch:=omega) only[push_cast,qE,h5,h7]
 rw[Vb]
 simp (disch:=omega) only[push_cast,qE,h5,h7]
 refine lOn Shp.eq mem0 rfl ?_
 simp (disch:=omega) only[push_cast,qE,h5,h7]
 rw[Vc]
 simp (disch:=omega) only[push_cast,qE,h5,h7]
 refine cdD (fun hk2=>?_) (fun hk2=>?_)
 ·simp (disch:=omega) only[push_cast,qE,h5,h7]
  refine lOn Shp.eq mem1 rfl ?_
  simp (disch:=omega) only[push_cast,qE,h5,h7]
  rw[if_pos hk2] at hfe
  refine gF rfl (fun hm=>?_) (fun hm=>?_)
  ·simp (disch:=omega) only[push_cast,qE,h5,h7]
   refine lOn Shp.eq mem1 rfl ?_
   simp (disch:=omega) only[push_cast,qE,h5,h7]
   have hfd:fitD (d+1) f v=decide (v.num=1):=by rw[hfe]; simp[hm]
   exact fin_fit (A:=[_,_,_]) (hL4 _ _ _) (by rw[hfd,hdd]; omega) (by rw[hfd,hdd,Bool.and_true])
  ·simp (disch:=omega) only[push_cast,qE,h5,h7]
   have hfd:fitD (d+1) f v=true:=by rw[hfe]; simp[hm]
   exact fin_fit (A:=[_,_,_]) (hL4 _ _ _) (by rw[hfd,hdd]; omega) (by rw[hfd,hdd]; rfl)
 simp (disch:=omega) only[push_cast,qE,h5,h7]
 refine lOn Shp.eq mem0 rfl ?_
 simp (disch:=omega) only[push_cast,qE,h5,h7]
 rw[Vc]
 simp (disch:=omega) only[push_cast,qE,h5,h7]
 rw[if_neg hk2] at hfe
 refine cdD (fun hk11=>?_) (fun hk11=>?_)
 ·simp (disch:=omega) only[push_cast,qE,h5,h7]
  rw[if_pos hk11] at hfe
  exact fin_fit (A:=[_,_,_]) (hL4 _ _ _) (by rw[hfe,hdd]; omega) (by rw[hfe,hdd]; rfl)
 rw[if_neg hk11] at hfe
 simp (disch:=omega) only[push_cast,qE,h5,h7]
 refine lOn Shp.eq mem0 rfl ?_
 simp (disch:=omega) only[push_cast,qE,h5,h7]
 refine callV en_82 (cIs (fun w' hw'=>whole_walk w' f.k) ?_)
 simp (disch:=omega) only[push_cast,qE,h5,h7]
 refine gbT rfl (fun hw=>?_) (fun hw=>?_)
 ·simp (disch:=omega) only[push_cast,qE,h5,h7]
  refine lOn Shp.eq mem0 rfl ?_
  simp (disch:=omega) only[push_cast,qE,h5,h7]
  refine lOn Shp.eq mem1 rfl ?_
  simp (disch:=omega) only[push_cast,qE,h5,h7]
  refine callV en_83 (cIs (fun w' hw'=>ranged_walk w' f.k v.num (by simpa [wholeP] using hw)) ?_)
  simp (disch:=omega) only[push_cast,qE,h5,h7]
  have hfd:fitD (d+1) f v=rangedP f.k v.num:=by rw[hfe,hw]; rfl
  exact fin_fit (A:=[_,_,_]) (hL4 _ _ _) (by rw[hfd,hdd]; omega) (by rw[hfd,hdd,Bool.and_true])
 ·simp (disch:=omega) only[push_cast,qE,h5,h7]
  have hfd:fitD (d+1) f v=false:=by rw[hfe,hw]; rfl
  exact fin_fit (A:=[_,_,_]) (hL4 _ _ _) (by rw[hfd]; simp) (by rw[hfd]; rfl)
end Go.Proofs.YtilejcofleeeiaaGreatDoor
