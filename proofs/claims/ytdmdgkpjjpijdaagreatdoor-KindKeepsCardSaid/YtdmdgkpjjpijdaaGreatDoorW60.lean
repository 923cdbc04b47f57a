/- YtdmdgkpjjpijdaaGreatDoor: walks, part 60: the reference's EqField of a field and the same field elsewhere. -/
import Derived.Test.YtdmdgkpjjpijdaaGreatDoorW10
import Derived.Test.YtdmdgkpjjpijdaaGreatDoorKs
namespace Go.Proofs.YtdmdgkpjjpijdaaGreatDoor
open Go Go.K
open Nat renaming reduceEqDiff → qE
open List renaming mem_nil_iff → qI
set_option linter.unusedVariables false
set_option linter.unusedSimpArgs false
structure Key where
 nl:Bool
 k:Int
 wd:Int
 id:Int
 ix:Int
 n:Nat
 nm:List UInt8
def keyF (f:Fld):Key:=⟨f.nl,f.k,f.wd,f.id,f.ix,f.sub.length,f.nm⟩
def keysL:Nat→List Fld→List Key
 | 0,_=>[]
 | d+1,l=>l.flatMap fun f=>keyF f::keysL d f.sub
theorem zip_flat {α β:Type} (g:α→List β):∀ (l:List α) (n:Nat),(l.zipIdx n).flatMap (fun p=>g p.1)=l.flatMap g
 | [],_=>rfl
 | a::l,n=>by rw[List.zipIdx_cons,List.flatMap_cons,List.flatMap_cons,zip_flat g l]
theorem keys_nd:∀ (d:Nat) (path:List Nat) (ind:Bool) (l:List Fld),(nd d path ind l).map (fun x=>keyF x.f)=keysL d l
 | 0,_,_,_=>rfl
 | d+1,path,ind,l=>by
  rw[nd,keysL,List.map_flatMap,← zip_flat (fun f=>keyF f::keysL d f.sub) l 0]
  congr 1
  funext p
  rw[List.map_cons,keys_nd d]
def Dp:Nat→List Fld→Prop
 | 0,l=>l=[]
 | d+1,l=>∀ f∈l,Dp d f.sub
theorem dp_of:∀ (d:Nat) (path:List Nat) (ind:Bool) (l:List Fld),(∀ x∈nd (d+1) path ind l,x.path.length≤path.length+d)→Dp d l
 | 0,path,ind,l,h=>by
  cases l with
  | nil=>rfl
  | cons f l =>
   have:=h ⟨path++[0],[],f,ind⟩ (by simp[nd])
   simp only[List.length_append,List.length_cons,List.length_nil] at this
   omega
 | d+1,path,ind,l,h=>fun f hf=>by
  obtain ⟨i,hi⟩:=List.mem_iff_getElem?.1 hf
  refine dp_of d (path++[i]) (ind || f.k == 19) f.sub fun x hx=>?_
  have:=h x (by
   rw[nd]
   refine List.mem_flatMap.2 ⟨(f,i),?_,.tail _ hx⟩
   exact List.mem_iff_getElem?.2 ⟨i,by simp[hi]⟩)
  simp only[List.length_append,List.length_cons,List.length_nil] at this ⊢
  omega
theorem keys_dp:∀ (d:Nat) (l:List Fld),Dp d l→keysL (d+1) l=keysL d l
 | 0,l,h=>by cases h; rfl
 | d+1,l,h=>by
  rw[keysL,keysL]
  have:∀ m:List Fld,(∀ f∈m,f∈l)→m.flatMap (fun f=>keyF f::keysL (d+1) f.sub)=m.flatMap fun f=>keyF f::keysL d f.sub:=by
   intro m hm
   induction m with
   | nil=>rfl
   | cons f m ih =>
    rw[List.flatMap_cons,List.flatMap_cons,ih fun g hg=>hm g (.tail _ hg),keys_dp d f.sub (h f (hm f (.head _)))]
  exact this l fun f h=>h
theorem may_dp {l:List Fld} {nt:List NoteT} (h:mayP l nt=true):Dp 64 l:=by
 refine dp_of 64 [] false l fun x hx=>?_
 obtain ⟨i,hi⟩:=List.mem_iff_getElem?.1 hx
 have h1:=(checkP_zero h).2.2.2 i
 unfold wrongAt at h1
 rw[hi] at h1
 have:=(wrongN_many h1).1
 simpa using this
set_option maxRecDepth 100000
set_option maxHeartbeats 1000000
structure SnE (w:World) (b2 b3:Nat) (f g:Fld) (a a':Option Addr) (c c':Nat) (wb:World) (e:Env) (ds:List Deferred) (L:Own):Prop where
 hw:wb=w
 hds:ds=[]
 h2:e 2=.pointer (some ⟨b2,0,none⟩)
 h3:e 3=.pointer (some ⟨b3,0,none⟩)
 o:∃ b5 b6,e 5=.pointer (some ⟨b5,0,none⟩)∧e 6=.pointer (some ⟨b6,0,none⟩)∧w.heap.size≤b5∧w.heap.size≤b6∧L=[(qb2 b6 g a' c'),(qb2 b5 f a c),(qb0 b3 g a' c'),(qb0 b2 f a c)]
abbrev fldV (f:Fld) (a:Option Addr) (c:Nat):Value:=.agg #[str f.nm,.bool f.nl,i64 f.k,i64 f.wd,i64 f.id,i64 f.ix,.slice a f.sub.length c]
def EqFsOK (n:Nat):Prop:=∀ (w:World) (lo lo':Nat) (l:List Fld) (a a':Option Addr) (c c':Nat),lo≤w.heap.size→lo'≤w.heap.size→Rd w lo a l→Rd w lo' a' l→l.length≤9223372036854775807→SizeOf.sizeOf l < n→Calls Tryz.prog 22 #[.slice a l.length c,.slice a' l.length c'] w (Rets w (Is (.bool true)))
def EqFOK (n:Nat):Prop:=∀ (w:World) (lo lo':Nat) (f:Fld) (a a':Option Addr) (c c':Nat),lo≤w.heap.size→lo'≤w.heap.size→Rd w lo a f.sub→Rd w lo' a' f.sub→f.sub.length≤9223372036854775807→SizeOf.sizeOf f < n→Calls Tryz.prog 11 #[fldV f a c,fldV f a' c'] w (Rets w (Is (.bool true)))
theorem eqField_step (n:Nat) (hF:EqFsOK n):EqFOK (n+1):=by
 intro w lo lo' f a a' c c' hlo hlo' hr hr' hl hsz
 refine enterT (args:=[fldV f a c,fldV f a' c']) Tryz.func11 rfl Tryz.ntmps11 (congrArg Array.toList Tryz.results11) (by kernel_rfl) (by simp) (Sy.refl w) ?_
 simp (disch:=omega) only[push_cast,qE,fldV]
 refine newI (fun b2 hb2 hn2=>?_)
 refine sp ?_
 refine newI (fun b3 hb3 hn3=>?_)
 refine sp ?_
 repeat' (first|((first|((first|refine gT rfl ?_ ?_|refine gF rfl ?_ ?_|refine cdD ?_ ?_)<;>intro h)|((first|refine gbT rfl ?_ ?_|refine gbF rfl ?_ ?_|refine cdB ?_ ?_)<;>intro h<;>(try subst h))|refine lOa Shp.eq rfl ?_|refine lAa Shp.eq rfl rfl ?_|refine newI (fun b hb hn=>?_)|refine sXb Siz.eq rfl rfl ?_)<;>simp (disch:=omega) only[push_cast,qE]))
 have hL:∀ p∈[(qb0 b3 f a' c'),(qb0 b2 f a c)],w.heap.size≤p.1:=by
  intro p hp
  simp only[List.mem_cons,qI,or_false] at hp
  rcases hp with rfl|rfl<;>assumption
 refine cutW (SnE w b2 b3 f f a a' c c') ?_ ?_
 ·refine freeTs [0,1,2,3] [4,5,6,7] [[4,5,6,7],[5,4,6,7]] [(qb0 b3 f a' c'),(qb0 b2 f a c)] (by kernel_rfl) mixed (by kernel_rfl) (by kernel_rfl) (fun h=>by cases h) (fun w hw=>hw) ?_
  refine sp ?_
  refine lAg Shp.eq (.tail _ (.head _)) rfl rfl ?_
  refine sp ?_
  refine lAg Shp.eq (.head _) rfl rfl ?_
  refine sp ?_
  have st1:∀ x:Nat×Obj,w.heap.size≤x.1→Stab w (x::[(qb0 b3 f a' c'),(qb0 b2 f a c)]) [(qb0 b3 f a' c'),(qb0 b2 f a c)]:=fun x hx=>Stab.of (.cons _ (List.Sublist.refl _)) ((nC hx hL))
  have st2:∀ x y:Nat×Obj,w.heap.size≤x.1→w.heap.size≤y.1→Stab w (x::y::[(qb0 b3 f a' c'),(qb0 b2 f a c)]) [(qb0 b3 f a' c'),(qb0 b2 f a c)]:=fun x y hx hy=>Stab.of (.cons _ (.cons _ (List.Sublist.refl _))) ((nC hx (nC hy hL)))
  intro t ht
  simp only[List.mem_cons,qI,or_false] at ht
  rcases ht with rfl|rfl
  ·refine sp ?_
   refine newI (fun b5 hb5 hn5=>?_)
   refine sp ?_
   refine ⟨st1 _ hb5,newI (fun b6 hb6 hn6=>?_)⟩
   refine sp ?_
   refine ⟨st2 _ _ hb6 hb5,sXa 1 rfl Siz.eq rfl rfl ?_⟩
   refine sp ?_
   refine ⟨st2 _ _ hb6 hb5,sXa 0 rfl Siz.eq rfl rfl ?_⟩
   refine sp ?_
   exact ⟨st2 _ _ hb6 hb5,_,fun w hw=>hw,rfl,rfl,rfl,rfl,b5,b6,rfl,rfl,hb5,hb6,rfl⟩
  ·refine sp ?_
   refine newI (fun b6 hb6 hn6=>?_)
   refine sp ?_
   refine ⟨st1 _ hb6,newI (fun b5 hb5 hn5=>?_)⟩
   refine sp ?_
   refine ⟨st2 _ _ hb5 hb6,sXa 0 rfl Siz.eq rfl rfl ?_⟩
   refine sp ?_
   refine ⟨st2 _ _ hb5 hb6,sXa 1 rfl Siz.eq rfl rfl ?_⟩
   refine sp ?_
   exact ⟨st2 _ _ hb5 hb6,_,fun w hw=>hw.perm (.swap _ _ _),rfl,rfl,rfl,rfl,b5,b6,rfl,rfl,hb5,hb6,rfl⟩
 ·rintro wb e ds L ⟨rfl,rfl,e2,e3,⟨b5,b6,e5,e6,hb5,hb6,rfl⟩⟩
  have hL4:∀ p∈[(qb2 b6 f a' c'),(qb2 b5 f a c),(qb0 b3 f a' c'),(qb0 b2 f a c)],wb.heap.size≤p.1:=by
   intro p hp
   simp only[List.mem_cons,qI,or_false] at hp
   rcases hp with rfl|rfl|rfl|rfl<;>assumption
  have hszs:SizeOf.sizeOf f.sub < n:=by
   have:SizeOf.sizeOf f.sub < SizeOf.sizeOf f:=by cases f; simp only[Fld.sub,Fld.mk.sizeOf_spec]; omega
   omega
  simp (disch:=omega) only[push_cast,qE,e2,e3,e5,e6,decide_true,beq_self_eq_true]
  repeat' (first|(refine lOa Shp.eq rfl ?_; simp (disch:=omega) only[push_cast,qE,e2,e3,e5,e6,decide_true,beq_self_eq_true]))
  refine callV en_22 (cIs (fun w' hw'=>hF w' lo lo' f.sub a a' c c' (Nat.le_trans hlo hw'.size) (Nat.le_trans hlo' hw'.size) (hr.sy hlo hw' (fun p hp=>Nat.le_trans hlo (hL4 p hp))) (hr'.sy hlo' hw' (fun p hp=>Nat.le_trans hlo' (hL4 p hp))) hl hszs) ?_)
  simp (disch:=omega) only[push_cast,qE,e2,e3,e5,e6]
  exact finIs hL4 rfl
structure EqFsI (w0:World) (l:List Fld) (a a':Option Addr) (c c':Nat) (i:Nat) (wb:World) (e:Env) (ds:List Deferred) (L:Own):Prop where
 hw:wb=w0
 hds:ds=[]
 o:L=[]
 il:i≤l.length
 h0:e 0=.slice a l.length c
 h1:e 1=.slice a' l.length c'
 h12:e 12=i64 l.length
 h13:e 13=i64 i
theorem eqFields_step (n:Nat) (hF:EqFOK n):EqFsOK (n+1):=by
 intro w lo lo' l a a' c c' hlo hlo' hr hr' hl hsz
 refine enterT (args:=[.slice a l.length c,.slice a' l.length c']) Tryz.func22 rfl Tryz.ntmps22 (congrArg Array.toList Tryz.results22) (by kernel_rfl) (by simp) (Sy.refl w) ?_
 simp (disch:=omega) only[push_cast,qE,ne_eq,not_true_eq_false,decide_false]
 rw[Vc]
 refine sp ?_
 repeat' (first|((first|((first|refine gT rfl ?_ ?_|refine gF rfl ?_ ?_|refine cdD ?_ ?_)<;>intro h)|((first|refine gbT rfl ?_ ?_|refine gbF rfl ?_ ?_|refine cdB ?_ ?_)<;>intro h<;>(try subst h))|refine lOa Shp.eq rfl ?_|refine lAa Shp.eq rfl rfl ?_|refine newI (fun b hb hn=>?_)|refine sXb Siz.eq rfl rfl ?_)<;>simp (disch:=omega) only[push_cast,qE]))
 rw[Vb]
 refine sp ?_
 refine loopT (G:=Nat) (EqFsI w l a a' c c') (fun i=>l.length - i) 0 (by kernel_rfl) ⟨rfl,rfl,rfl,by omega,rfl,rfl,rfl,rfl⟩ ?_
 rintro i wb e ds L ⟨rfl,rfl,rfl,hil,h0,h1,h12,h13⟩
 simp (disch:=omega) only[push_cast,qE,h0,h1,h12,h13]
 rw[Vc]
 simp (disch:=omega) only[push_cast,qE,h0,h1,h12,h13]
 refine cdD (fun hlt=>?_) (fun hge=>?_)
 ·obtain ⟨f,hf⟩:∃ f,l[i]?=some f:=⟨_,List.getElem?_eq_getElem (by omega)⟩
  have hne:∃ f l',l=f::l':=List.exists_cons_of_ne_nil (by rintro rfl; simp at hf)
  obtain ⟨b,off,rfl,hb⟩:∃ b off,a=some ⟨b,off,none⟩∧b < lo:=by
   obtain ⟨f0,l0,rfl⟩:=hne
   exact hr.some_of
  obtain ⟨b',off',rfl,hb'⟩:∃ b off,a'=some ⟨b,off,none⟩∧b < lo':=by
   obtain ⟨f0,l0,rfl⟩:=hne
   exact hr'.some_of
  have hszf:SizeOf.sizeOf f < n:=by
   have:=List.sizeOf_lt_of_mem (List.mem_of_getElem? hf)
   omega
  obtain ⟨fa,fc,x1,x2,x3,x4,x5,x6⟩:=hr.get i hf
  obtain ⟨fa',fc',y1,y2,y3,y4,y5,y6⟩:=hr'.get i hf
  simp (disch:=omega) only[push_cast,qE,h0,h1,h12,h13]
  rw[Vb]
  simp (disch:=omega) only[push_cast,qE,h0,h1,h12,h13]
  refine drawQT (by kernel_rfl) (by kernel_rfl) mixed (by kernel_rfl) ?_
  simp (disch:=omega) only[push_cast,qE,h0,h1,h12,h13]
  refine ldAggF Shp.eq x2 rfl (by simp) ?_
  simp (disch:=omega) only[push_cast,qE,h0,h1,h12,h13,Fld.cells]
  refine ldAggF Shp.eq y2 rfl (by simp) ?_
  simp (disch:=omega) only[push_cast,qE,h0,h1,h12,h13,Fld.cells]
  refine qcallV en_11 (qcallX_is _ (fun w' hw'=>hF w' lo lo' f fa fa' fc fc' (Nat.le_trans hlo hw'.size) (Nat.le_trans hlo' hw'.size) (x6.sy hlo hw' (by simp)) (y6.sy hlo' hw' (by simp)) (by omega) hszf) ?_)
  simp (disch:=omega) only[push_cast,qE,h0,h1,h12,h13]
  rw[Vc]
  simp (disch:=omega) only[push_cast,qE,h0,h1,h12,h13]
  refine cdB (fun hm=>by cases hm) (fun _=>?_)
  simp (disch:=omega) only[push_cast,qE,h0,h1,h12,h13]
  exact ⟨i+1,⟨rfl,rfl,rfl,by omega,h0,h1,h12,uu⟩,by omega⟩
 ·simp (disch:=omega) only[push_cast,qE,h0,h1,h12,h13]
  exact finIs (by simp) rfl
theorem eqs_ok:∀ n,EqFsOK n∧EqFOK n
 | 0=>⟨fun w lo lo' l a a' c c' _ _ _ _ _ h=>by omega,fun w lo lo' f a a' c c' _ _ _ _ _ h=>by omega⟩
 | n+1=>⟨eqFields_step n (eqs_ok n).2,eqField_step n (eqs_ok n).1⟩
theorem eqField_walk (w:World) (lo lo':Nat) (f:Fld) (a a':Option Addr) (c c':Nat) (hlo:lo≤w.heap.size) (hlo':lo'≤w.heap.size) (hr:Rd w lo a f.sub) (hr':Rd w lo' a' f.sub) (hl:f.sub.length≤9223372036854775807):Calls Tryz.prog 11 #[fldV f a c,fldV f a' c'] w (Rets w (Is (.bool true))) :=
 (eqs_ok (SizeOf.sizeOf f+1)).2 w lo lo' f a a' c c' hlo hlo' hr hr' hl (by omega)
theorem eqFields_walk (w:World) (lo lo':Nat) (l:List Fld) (a a':Option Addr) (c c':Nat) (hlo:lo≤w.heap.size) (hlo':lo'≤w.heap.size) (hr:Rd w lo a l) (hr':Rd w lo' a' l) (hl:l.length≤9223372036854775807):Calls Tryz.prog 22 #[.slice a l.length c,.slice a' l.length c'] w (Rets w (Is (.bool true))) :=
 (eqs_ok (SizeOf.sizeOf l+1)).1 w lo lo' l a a' c c' hlo hlo' hr hr' hl (by omega)
end Go.Proofs.YtdmdgkpjjpijdaaGreatDoor
