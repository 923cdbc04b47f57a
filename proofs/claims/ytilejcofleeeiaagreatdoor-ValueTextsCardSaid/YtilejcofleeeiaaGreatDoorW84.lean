/- YtilejcofleeeiaaGreatDoor: walks, part 83: the place of a floating-point number; values as they lie; does a field let a null. -/
import Derived.Test.YtilejcofleeeiaaGreatDoorW7
import Derived.Laws.BitsAllLaws
namespace Go.Proofs.YtilejcofleeeiaaGreatDoor
open Go Go.K
open Nat renaming reduceEqDiff → qE
set_option maxRecDepth 100000
set_option linter.unusedVariables false
set_option linter.unusedSimpArgs false
set_option maxHeartbeats 4000000
def mayP (l:List Fld) (nt:List NoteT):Bool:=(checkP l nt).1 == 0
theorem checkField_walk (w:World) (hs:SaysAt w) (lo:Nat) (hlo:lo≤w.heap.size) (f:Fld) (a:Option Addr) (c:Nat) (hf:Rd w lo a f.sub) (hfc:f.sub.length≤c) (hc2:c≤9223372036854775807) (hfn:f.nm.length≤9223372036854775807) :
 Calls Tryz.prog 44 #[.agg #[str f.nm,.bool f.nl,i64 f.k,i64 f.wd,i64 f.id,i64 f.ix,.slice a f.sub.length c]] w (RetsN w (fun v M=>∃ pa pc,v=.agg #[i64 (checkP [f] []).1,.slice pa (checkP [f] []).2.1.tail.length pc,i64 (checkP [f] []).2.2]∧(pa=none∧pc=0∧(checkP [f] []).2.1=[]∨∃ b cap cs,pa=some ⟨b,if cap=1 then 0 else 1,none⟩∧pc=cap - 1∧(b,.cells cs 3 (0,0))∈M∧RowIn [(b,.cells cs 3 (0,0))] 3 (.slice (some ⟨b,0,none⟩) (checkP [f] []).2.1.length cap) (checkP [f] []).2.1.length (ints (checkP [f] []).2.1)))):=by
 refine enterT (args:=[.agg #[str f.nm,.bool f.nl,i64 f.k,i64 f.wd,i64 f.id,i64 f.ix,.slice a f.sub.length c]]) Tryz.func44 rfl Tryz.ntmps44 (congrArg Array.toList Tryz.results44) (by kernel_rfl) (by simp) (Sy.refl w) ?_
 refine sp ?_
 refine newI (fun b1 hb1 hn1=>?_)
 refine sp ?_
 refine newI (fun b2 hb2 hn2=>?_)
 refine sp ?_
 refine lAg sh_26 (.tail _ (.head _)) rfl rfl ?_
 refine sp ?_
 refine bs_22_1 (newI fun b3 hb3 hn3=>?_)
 have hL:∀ p∈[(qb0 b3 f a c),(b2,Obj.cells #[.int .i64 0,.slice none 0 0,.int .i64 0] 85 (0,0)),(qb0 b1 f a c)],w.heap.size≤p.1:=by
  intro p hp
  simp only[List.mem_cons,List.mem_nil_iff,or_false] at hp
  rcases hp with rfl|rfl|rfl<;>assumption
 refine sp ?_
 refine callV en_79 (callX_newR (fun w' hw'=>check_walk w' (hs.mono hw' hL) w'.heap.size (Nat.le_refl _) [f] (some ⟨b3,0,none⟩) 1 (.cons (hw'.lt (.head _)) hfc hfn hc2 (At.of_own hw' (.head _) rfl) ((hf.sy hlo hw' (fun p hp=>Nat.le_trans hlo (hL p hp))).weaken (Nat.le_trans hlo hw'.size)) (.nil _)) (by simp) (by omega) [] none 0 (.inl rfl) (by simp) (by omega)) (fun v M hM hMn ⟨pa,pc,hv,hrow,hnil⟩=>?_))
 subst hv
 refine sp ?_
 refine newI (fun b4 hb4 hn4=>?_)
 refine sp ?_
 repeat' (first|((first|((first|refine gT rfl ?_ ?_|refine gF rfl ?_ ?_|refine cdD ?_ ?_)<;>intro h)|((first|refine gbT rfl ?_ ?_|refine gbF rfl ?_ ?_|refine cdB ?_ ?_)<;>intro h<;>(try subst h))|refine lOa Shp.eq rfl ?_|refine lAa Shp.eq rfl rfl ?_|refine newI (fun b hb hn=>?_)|refine sXb Siz.eq rfl rfl ?_)<;>simp (disch:=omega) only[push_cast,qE]))
 generalize checkP [f] []=r at *
 have hnew:∀ (x y z u:Obj),∀ p∈[(b4,x),(b3,y),(b2,z),(b1,u)],w.heap.size≤p.1:=by
  intro x y z u p hp
  simp only[List.mem_cons,List.mem_nil_iff,or_false] at hp
  rcases hp with rfl|rfl|rfl|rfl<;>assumption
 rw[Vc]
 refine sp ?_
 refine cdD (fun hpos=>?_) (fun hneg=>?_)
 ·obtain ⟨_,⟨he,h0⟩|⟨b,cap,cs,he,hm,h1,h2,h3,h4⟩⟩:=hrow
  ·omega
  injection he with he1 he2 he3
  subst he1; subst he3
  refine sp ?_
  repeat' (first|((first|((first|refine gT rfl ?_ ?_|refine gF rfl ?_ ?_|refine cdD ?_ ?_)<;>intro h)|((first|refine gbT rfl ?_ ?_|refine gbF rfl ?_ ?_|refine cdB ?_ ?_)<;>intro h<;>(try subst h))|refine lOa Shp.eq rfl ?_|refine lAa Shp.eq rfl rfl ?_|refine newI (fun b hb hn=>?_)|refine sXb Siz.eq rfl rfl ?_)<;>simp (disch:=omega) only[push_cast,qE]))
  refine fun w' hw'=>⟨_,M,rfl,hw'.left (A:=[_,_,_,_]) (hnew _ _ _ _),hM,some ⟨b,if pc=1 then 0 else 1,none⟩,pc - 1,?_,.inr ⟨b,pc,cs.toArray,rfl,rfl,hm,?_⟩⟩
  ·rw[List.length_tail]
  ·exact ⟨by simp[ints],.inr ⟨b,pc,cs,rfl,.head _,h1,h2,h3,h4⟩⟩
 ·refine sp ?_
  repeat' (first|((first|((first|refine gT rfl ?_ ?_|refine gF rfl ?_ ?_|refine cdD ?_ ?_)<;>intro h)|((first|refine gbT rfl ?_ ?_|refine gbF rfl ?_ ?_|refine cdB ?_ ?_)<;>intro h<;>(try subst h))|refine lOa Shp.eq rfl ?_|refine lAa Shp.eq rfl rfl ?_|refine newI (fun b hb hn=>?_)|refine sXb Siz.eq rfl rfl ?_)<;>simp (disch:=omega) only[push_cast,qE]))
  have hr0:r.2.1=[]:=List.eq_nil_of_length_eq_zero (by omega)
  obtain ⟨rfl,rfl⟩:=hnil hr0
  refine fun w' hw'=>⟨_,M,rfl,hw'.left (A:=[_,_,_,_]) (hnew _ _ _ _),hM,none,0,?_,.inl ⟨rfl,rfl,hr0⟩⟩
  rw[hr0]
  rfl
theorem firstWrong_zero {ns:List FNode} (h:(faultN ns).1=0):∀ k,wrongAt ns k=0:=by
 intro k
 rcases Nat.lt_or_ge k ns.length with hk|hk
 ·cases hf:firstWrong ns with
  | none =>
   unfold firstWrong at hf
   rw[List.find?_eq_none] at hf
   simpa using hf k (List.mem_range.2 hk)
  | some j =>
   unfold firstWrong at hf
   have h2:=List.find?_some hf
   unfold faultN firstWrong at h
   rw[hf] at h
   simp only at h
   simp[h] at h2
 ·unfold wrongAt; rw[List.getElem?_eq_none hk]
theorem checkP_zero {l:List Fld} {nt:List NoteT} (h:mayP l nt=true):l.length≤32∧nt.length≤16∧nt.findIdx? longNote=none∧∀ k,wrongAt (nd 65 [] false l) k=0:=by
 unfold mayP at h
 have h0:(checkP l nt).1=0:=by simpa using h
 unfold checkP at h0
 split at h0
 ·cases h0
 ·split at h0
  ·cases h0
  ·split at h0
   ·cases h0
   ·exact ⟨by omega,by omega,by assumption,firstWrong_zero h0⟩
theorem wrongN_many {pl:Nat} {ah:List Fld} {f:Fld} {ind:Bool} {k:Int} {S:List Int} (h:wrongN pl ah f ind k S=0):pl≤64∧k < 256:=by
 unfold wrongN at h
 split at h
 ·cases h
 ·split at h
  ·cases h
  ·omega
set_option maxHeartbeats 1000000
theorem wrap_u64 (n:Int):IntKind.u64.wrap n=n % 18446744073709551616:=by simp[IntKind.wrap,IntKind.bits,IntKind.signed]
inductive Vl where
 | mk (nu:Bool) (num:Int) (tx:List UInt8) (ls:List Vl)
namespace Vl
def nu:Vl→Bool|mk a _ _ _=>a
def num:Vl→Int|mk _ a _ _=>a
def tx:Vl→List UInt8|mk _ _ a _=>a
def ls:Vl→List Vl|mk _ _ _ a=>a
def cells (v:Vl) (a:Option Addr) (c:Nat):List Value:=[.bool v.nu,i64 v.num,str v.tx,.slice a v.ls.length c]
end Vl
inductive RdV (w:World) (lo:Nat):Option Addr→List Vl→Prop where
 | nil (a:Option Addr):RdV w lo a []
 | cons {b off:Nat} {a:Option Addr} {c:Nat} {v:Vl} {rest:List Vl} (hb:b < lo) (hc:v.ls.length≤c) (hl:c≤9223372036854775807) (ht:v.tx.length≤9223372036854775807) (hn : -9223372036854775808≤v.num∧v.num < 9223372036854775808)
  (hat:At w b off (v.cells a c)) (hs:RdV w lo a v.ls) (hr:RdV w lo (some ⟨b,off+4,none⟩) rest):RdV w lo (some ⟨b,off,none⟩) (v::rest)
theorem RdV.mono {w w':World} {lo:Nat} {a:Option Addr} {l:List Vl} (h:RdV w lo a l) (hw:∀ k,k < lo→w'.heap[k]?=w.heap[k]?):RdV w' lo a l:=by
 induction h with
 | nil a=>exact .nil a
 | cons hb hc hl ht hn hat hs hr ih1 ih2=>exact .cons hb hc hl ht hn (hat.of_block (hw _ hb)) ih1 ih2
theorem RdV.weaken {w:World} {lo lo':Nat} {a:Option Addr} {l:List Vl} (h:RdV w lo a l) (hle:lo≤lo'):RdV w lo' a l:=by
 induction h with
 | nil a=>exact .nil a
 | cons hb hc hl ht hn hat hs hr ih1 ih2=>exact .cons (Nat.lt_of_lt_of_le hb hle) hc hl ht hn hat ih1 ih2
theorem RdV.sy {w w':World} {lo:Nat} {a:Option Addr} {l:List Vl} {M:Own} (h:RdV w lo a l) (hlo:lo≤w.heap.size) (hs:Sy w M w') (hM:∀ p∈M,lo≤p.1):RdV w' lo a l :=
 h.mono fun k hk=>hs.rest k (Nat.lt_of_lt_of_le hk hlo) (fun hm=>by obtain ⟨p,hp,e⟩:=List.mem_map.1 hm; have:=hM p hp; omega)
structure VAt (w:World) (lo:Nat) (v:Vl) (a:Option Addr) (c:Nat):Prop where
 hr:RdV w lo a v.ls
 hc:v.ls.length≤c
 hc2:c≤9223372036854775807
 ht:v.tx.length≤9223372036854775807
 hn : -9223372036854775808≤v.num∧v.num < 9223372036854775808
theorem VAt.sy {w w':World} {lo:Nat} {v:Vl} {a:Option Addr} {c:Nat} {M:Own} (h:VAt w lo v a c) (hlo:lo≤w.heap.size) (hs:Sy w M w') (hM:∀ p∈M,w.heap.size≤p.1):VAt w' lo v a c :=
 ⟨h.hr.sy hlo hs (fun p hp=>Nat.le_trans hlo (hM p hp)),h.hc,h.hc2,h.ht,h.hn⟩
theorem RdV.get {w:World} {lo:Nat}:∀ {l:List Vl} {b off:Nat} {v:Vl} (i:Nat),RdV w lo (some ⟨b,off,none⟩) l→l[i]?=some v →
 ∃ a c,b < lo∧At w b (off+i * 4) (v.cells a c)∧VAt w lo v a c
 | [],_,_,_,i,_,h2=>by simp at h2
 | g::l,b,off,f,0,h1,h2=>by
  cases h1 with
  | cons hb hc hl ht hn hat hs hr =>
   simp only[List.getElem?_cons_zero,Option.some.injEq] at h2
   subst h2
   exact ⟨_,_,hb,un hat,hs,hc,hl,ht,hn⟩
 | g::l,b,off,f,i+1,h1,h2=>by
  cases h1 with
  | cons hb hc hl ht hn hat hs hr =>
   simp only[List.getElem?_cons_succ] at h2
   obtain ⟨a,c,x1,x2,x3⟩:=RdV.get i hr h2
   exact ⟨a,c,x1,by rw[show off+(i+1) * 4=off+4+i * 4 by omega]; exact x2,x3⟩
theorem RdV.some_of {w:World} {lo:Nat} {a:Option Addr} {v:Vl} {l:List Vl} (h:RdV w lo a (v::l)):∃ b off,a=some ⟨b,off,none⟩∧b < lo:=by
 cases h with
 | cons hb hc hl ht hn hat hs hr=>exact ⟨_,_,rfl,hb⟩
structure FlAt (w:World) (lo:Nat) (f:Fld) (a:Option Addr) (c:Nat):Prop where
 hr:Rd w lo a f.sub
 hc:f.sub.length≤c
 hc2:c≤9223372036854775807
theorem FlAt.sy {w w':World} {lo:Nat} {f:Fld} {a:Option Addr} {c:Nat} {M:Own} (h:FlAt w lo f a c) (hlo:lo≤w.heap.size) (hs:Sy w M w') (hM:∀ p∈M,w.heap.size≤p.1):FlAt w' lo f a c :=
 ⟨h.hr.sy hlo hs (fun p hp=>Nat.le_trans hlo (hM p hp)),h.hc,h.hc2⟩
def letsP:Fld→Bool
 | .mk _ nl k _ _ _ sub=>match sub with
  | [g]=>if k=20 then letsP g else nl && !decide (k=18)
  | _=>nl && !decide (k=18)
theorem lets_in {f g:Fld} (hk:f.k=20) (hs:f.sub=[g]):letsP f=letsP g:=by
 cases f
 simp only[Fld.k,Fld.sub] at hk hs
 subst hk; subst hs
 rw[letsP,if_pos rfl]
theorem lets_out {f:Fld} (h:¬ (f.k=20∧f.sub.length=1)):letsP f=(f.nl && !decide (f.k=18)):=by
 obtain ⟨nm,nl,k,wd,id,ix,sub⟩:=f
 simp only[Fld.k,Fld.sub,Fld.nl] at h ⊢
 match sub,h with
 | [],_=>by_cases h18:k=18<;>simp[letsP,h18]
 | [g],h =>
  have h20:¬ k=20:=fun hk=>h ⟨hk,rfl⟩
  by_cases h18:k=18<;>simp[letsP,h18,h20]
 | _::_::_,_=>by_cases h18:k=18<;>simp[letsP,h18]
structure LtI (w0:World) (lo b1:Nat) (f:Fld) (g:Fld) (wb:World) (e:Env) (ds:List Deferred) (L:Own):Prop where
 hw:wb=w0
 hds:ds=[]
 o:∃ ga gc,L=[(qb0 b1 g ga gc)]∧FlAt w0 lo g ga gc
 hl:letsP f=letsP g
 h1:e 1=.pointer (some ⟨b1,0,none⟩)
theorem lets_walk (w:World) (lo:Nat) (hlo:lo≤w.heap.size) (f:Fld) (a:Option Addr) (c:Nat) (hF:FlAt w lo f a c) :
 Calls Tryz.prog 69 #[.agg (f.cells a c).toArray] w (Rets w (Is (.bool (letsP f)))):=by
 refine enterT (args:=[.agg (f.cells a c).toArray]) Tryz.func69 rfl Tryz.ntmps69 (congrArg Array.toList Tryz.results69) (by kernel_rfl) (by simp) (Sy.refl w) ?_
 simp (disch:=omega) only[push_cast,qE,Fld.cells]
 refine newI (fun b1 hb1 hn1=>?_)
 simp (disch:=omega) only[push_cast,qE,Fld.cells]
 have hL:∀ x:Obj,∀ p∈[(b1,x)],w.heap.size≤p.1:=fun x p hp=>by rw[List.mem_singleton.1 hp]; exact hb1
 rw[Vb]
 simp (disch:=omega) only[push_cast,qE,Fld.cells]
 refine loopW (G:=Fld) (LtI w lo b1 f) (fun g=>SizeOf.sizeOf g) f _ (fun w hw=>hw) (by kernel_rfl) ⟨rfl,rfl,⟨a,c,rfl,hF⟩,rfl,rfl⟩ ?_
 rintro g wb e ds L ⟨rfl,rfl,⟨ga,gc,rfl,hG⟩,hl,h1⟩
 simp (disch:=omega) only[push_cast,qE,h1]
 refine lOn Shp.eq mem0 rfl ?_
 simp (disch:=omega) only[push_cast,qE,h1]
 refine gT rfl (fun hk=>?_) (fun hk=>?_)
 ·simp (disch:=omega) only[push_cast,qE,h1]
  refine lOn Shp.eq mem0 rfl ?_
  simp (disch:=omega) only[push_cast,qE,h1]
  rw[Vc]
  simp (disch:=omega) only[push_cast,qE,h1]
  refine cdD (fun h1l=>?_) (fun h1l=>?_)
  ·have hlen:g.sub.length=1:=by omega
   obtain ⟨x,l,hx⟩:∃ x l,g.sub=x::l:=List.exists_cons_of_ne_nil (fun h0=>by rw[h0] at hlen; simp at hlen)
   obtain rfl:l=[]:=by rw[hx] at hlen; exact List.eq_nil_of_length_eq_zero (un hlen)
   have hpos:0 < g.sub.length:=by omega
   have hr:=hG.hr
   rw[hx] at hr
   obtain ⟨b',off,rfl,hb'⟩:=hr.some_of
   obtain ⟨xa,xc,y1,y2,y3,y4,y5,y6⟩:=hr.get 0 rfl
   simp (disch:=omega) only[push_cast,qE,h1]
   rw[Vb]
   simp (disch:=omega) only[push_cast,qE,h1]
   refine lOn Shp.eq mem0 rfl ?_
   simp (disch:=omega) only[push_cast,qE,h1]
   refine ldAggF Shp.eq y2 rfl (out_of (fun p hp=>Nat.lt_of_lt_of_le (Nat.lt_of_lt_of_le y1 hlo) (hL _ p hp))) ?_
   simp (disch:=omega) only[push_cast,qE,h1,Fld.cells]
   refine sXa 0 rfl Siz.eq rfl rfl ?_
   simp (disch:=omega) only[push_cast,qE,h1]
   refine ⟨x,_,fun w hw=>hw,⟨rfl,rfl,⟨xa,xc,rfl,y6,y3,y5⟩,by rw[hl]; exact lets_in hk hx,h1⟩,?_⟩
   have h9:SizeOf.sizeOf g.sub < SizeOf.sizeOf g:=by cases g; simp only[Fld.sub,Fld.mk.sizeOf_spec]; omega
   rw[hx] at h9
   simp only[List.cons.sizeOf_spec,List.nil.sizeOf_spec] at h9
   omega
  ·have hout:=lets_out (f:=g) (fun h=>h1l (by omega))
   simp (disch:=omega) only[push_cast,qE,h1]
   refine lOn Shp.eq mem0 rfl ?_
   simp (disch:=omega) only[push_cast,qE,h1]
   rcases hnl:g.nl with _|_
   ·simp (disch:=omega) only[push_cast,qE,h1]
    exact finIs (hL _) (by rw[hl,hout,hnl]; rfl)
   ·simp (disch:=omega) only[push_cast,qE,h1]
    refine lOn Shp.eq mem0 rfl ?_
    simp (disch:=omega) only[push_cast,qE,h1,ne_eq]
    exact finIs (hL _) (by rw[hl,hout,hnl]; simp)
 ·have hout:=lets_out (f:=g) (fun h=>hk h.1)
  simp (disch:=omega) only[push_cast,qE,h1]
  rw[Vc]
  simp (disch:=omega) only[push_cast,qE,h1]
  refine lOn Shp.eq mem0 rfl ?_
  simp (disch:=omega) only[push_cast,qE,h1]
  rcases hnl:g.nl with _|_
  ·simp (disch:=omega) only[push_cast,qE,h1]
   exact finIs (hL _) (by rw[hl,hout,hnl]; rfl)
  ·simp (disch:=omega) only[push_cast,qE,h1]
   refine lOn Shp.eq mem0 rfl ?_
   simp (disch:=omega) only[push_cast,qE,h1,ne_eq]
   exact finIs (hL _) (by rw[hl,hout,hnl]; simp)
end Go.Proofs.YtilejcofleeeiaaGreatDoor
namespace Go.Proofs.YtilejcofleeeiaaGreatDoor
open Go Go.K
open Nat renaming reduceEqDiff → qE
set_option linter.unusedVariables false
set_option linter.unusedSimpArgs false
def okD:Nat→Fld→Prop
 | 0,_=>False
 | d+1,f=>shapedF f∧∀ g∈f.sub,okD d g
theorem okD_of:∀ (d:Nat) (path:List Nat) (ind:Bool) (l:List Fld),(∀ x∈nd (d+1) path ind l,shapedF x.f∧x.path.length≤path.length+d)→∀ f∈l,okD d f
 | 0,path,ind,l,h,f,hf=>by
  obtain ⟨i,hi⟩:=List.mem_iff_getElem?.1 hf
  have:=(h ⟨path++[i],l.take i,f,ind⟩ (by
   rw[nd]
   exact List.mem_flatMap.2 ⟨(f,i),List.mem_iff_getElem?.2 ⟨i,by simp[hi]⟩,.head _⟩)).2
  simp only[List.length_append,List.length_cons,List.length_nil] at this
  omega
 | d+1,path,ind,l,h,f,hf=>by
  obtain ⟨i,hi⟩:=List.mem_iff_getElem?.1 hf
  have hm:(f,i)∈l.zipIdx:=List.mem_iff_getElem?.2 ⟨i,by simp[hi]⟩
  refine ⟨(h ⟨path++[i],l.take i,f,ind⟩ (by
   rw[nd]
   exact List.mem_flatMap.2 ⟨(f,i),hm,.head _⟩)).1,okD_of d (path++[i]) (ind || f.k == 19) f.sub fun x hx=>?_⟩
  have:=h x (by
   rw[nd]
   exact List.mem_flatMap.2 ⟨(f,i),hm,.tail _ hx⟩)
  refine ⟨this.1,?_⟩
  have:=this.2
  simp only[List.length_append,List.length_cons,List.length_nil] at this ⊢
  omega
theorem may_okD {f:Fld} {nt:List NoteT} (h:mayP [f] nt=true):okD 64 f:=by
 refine okD_of 64 [] false [f] (fun x hx=>?_) f (.head _)
 obtain ⟨i,hi⟩:=List.mem_iff_getElem?.1 hx
 have h1:=(checkP_zero h).2.2.2 i
 unfold wrongAt at h1
 rw[hi] at h1
 simp only at h1
 have h2:=(wrongN_many h1).1
 refine ⟨?_,un h2⟩
 unfold wrongN at h1
 by_cases q1:64 < x.path.length
 ·rw[if_pos q1] at h1; cases h1
 rw[if_neg q1] at h1
 by_cases q2:(256:Int)≤i
 ·rw[if_pos q2] at h1; cases h1
 rw[if_neg q2] at h1
 by_cases q3:¬ isName x.f.nm
 ·rw[if_pos q3] at h1; cases h1
 rw[if_neg q3] at h1
 by_cases q4:x.ah.any (fun g=>decide (g.nm=x.f.nm))=true
 ·rw[if_pos q4] at h1; cases h1
 rw[if_neg q4] at h1
 by_cases q5:¬ shapedF x.f
 ·rw[if_pos q5] at h1; cases h1
 exact Decidable.not_not.1 q5
mutual
def wV:Vl→Nat
 | .mk _ _ tx ls=>16+tx.length+wL ls
def wL:List Vl→Nat
 | []=>0
 | v::l=>wV v+wL l
end
theorem wV_eq (v:Vl):wV v=16+v.tx.length+wL v.ls:=by cases v; rw[wV]; rfl
theorem wL_append:∀ (l m:List Vl),wL (l++m)=wL l+wL m
 | [],m=>by simp[wL]
 | v::l,m=>by rw[List.cons_append,wL,wL,wL_append l m]; omega
theorem wL_take {l:List Vl} {i:Nat} {v:Vl} (h:l[i]?=some v):wL (l.take (i+1))=wL (l.take i)+wV v:=by
 rw[List.take_add_one,h,Option.toList_some,wL_append]
 simp[wL]
theorem wL_take_le (l:List Vl) (i:Nat):wL (l.take i)≤wL l:=by
 have:=wL_append (l.take i) (l.drop i)
 rw[List.take_append_drop] at this
 omega
def childN (f:Fld) (i:Nat):Nat:=if f.k=17 then i else 0
def fitD:Nat→Fld→Vl→Bool
 | 0,_,_=>false
 | d+1,f,v=>decide (v.ls.length≤4096) && (if v.nu=true then decide (v.num=0) && (decide (v.tx=[]) && (decide (v.ls.length=0) && letsP f))
  else if f.k=19∨f.k=20 then (match f.sub[0]? with|some g=>fitD d g v|none=>false)
  else if f.k=18 then decide (v.tx=[]) && (decide (0≤v.num) && (decide (v.num < f.sub.length) && (decide (v.ls.length=1) && (match f.sub[v.num.toNat]?,v.ls[0]? with|some g,some x=>fitD d g x|_,_=>false))))
  else if f.k=15∨f.k=16∨f.k=17 then decide (v.num=0) && (decide (v.tx=[]) && (decide (f.k=16→(v.ls.length:Int)=f.wd) && (decide (f.k=17→v.ls.length=f.sub.length) && (List.range v.ls.length).all fun i=>match f.sub[childN f i]?,v.ls[i]? with|some g,some x=>fitD d g x|_,_=>false)))
  else if f.k=12∨f.k=13∨f.k=14 then decide (v.num=0) && (decide (v.ls.length=0) && ((!decide (f.k=12) || Lib.validD v.tx) && (!decide (f.k=14) || decide ((v.tx.length:Int)=f.wd))))
  else decide (v.tx=[]) && (decide (v.ls.length=0) && (if f.k=2 then decide (v.num=0∨v.num=1) else if f.k=11 then true else wholeP f.k && rangedP f.k v.num)))
end Go.Proofs.YtilejcofleeeiaaGreatDoor
