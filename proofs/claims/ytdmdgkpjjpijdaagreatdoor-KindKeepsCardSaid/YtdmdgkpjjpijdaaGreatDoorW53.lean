/- YtdmdgkpjjpijdaaGreatDoor: plain law: schemas that may be have small numbers and a text of bounded length. -/
import Derived.Laws.CopyRow
import Derived.Test.YtdmdgkpjjpijdaaGreatDoorW201
namespace Go.Proofs.YtdmdgkpjjpijdaaGreatDoor
open Go Go.K
open Nat renaming reduceEqDiff → qE
open List renaming mem_cons → qM, length_cons → qN, length_append → qA, mem_nil_iff → qI, length_nil → qO
set_option maxRecDepth 100000
set_option linter.unusedVariables false
set_option linter.unusedSimpArgs false
set_option maxHeartbeats 1600000
theorem copyRX {P:Program} {wb:World} {t ty e:TypeId} {b n c size:Nat} {cs xs:List Value} {a:Addr} {L0:Own} {K:Value→World→Own→Prop} (hu:P.underlying t=some (.slice e)) (hs:(P.info? e).map (·.size)=some size) (hcs:cs.length=n * size) (hx:xs.length=n * size)
 (hr:CanRead wb ((b,.cells cs.toArray e (0,0))::L0) a xs) (h1:∀ u∈xs,u.oneCell'=true) (hK:∀ u,K u wb ((b,.cells xs.toArray e (0,0))::L0)) :
 ValX P (Builtin.copy_ #[t,t] ty #[.slice (some ⟨b,0,none⟩) n n,.slice (some a) n c]) wb ((b,.cells cs.toArray e (0,0))::L0) (tag K):=by
 intro w hw
 have hbo:=hw.own b _ (List.mem_cons_self ..)
 have hl:=run_firstCells_some (P:=P) w size n a n c xs hx (hr w hw)
 have hst:=run_storeCells_at P b 0 e xs 0 cs.toArray w hbo (by simp; omega) h1
 refine ⟨_,{ w with heap:=w.heap.setIfInBounds b (.cells xs.toArray e (0,0)) },wb,_,?_,?_,hK (goInt n)⟩
 ·cases hq:P.info? e with
  | none=>simp[hq] at hs
  | some i =>
   have hi:i.size=size:=by simpa [hq] using hs
   have hw2:w.setRow b (cs.toArray.toList.take 0++xs++cs.toArray.toList.drop (0+xs.length)).toArray={ w with heap:=w.heap.setIfInBounds b (.cells xs.toArray e (0,0)) }:=by
    unfold World.setRow
    congr 1
    apply Array.ext_getElem?
    intro j
    rw[Array.getElem?_modify,Array.getElem?_setIfInBounds]
    have hlt:=(Array.getElem?_eq_some_iff.1 hbo).1
    split
    ·rename_i hj; subst hj; rw[hbo]; simp[hlt,List.drop_of_length_le (show cs.length≤xs.length by omega)]
    ·rfl
   rw[← hw2]
   simp[Builtin.copy_,run_underlying hu,Builtin.lenOf,sizeOf,typeInfo,hq,hi,hl]
   simp at hst
   rw[hst]
   simp
 ·have h6:=hw.set (i:=0) (b:=b) (o:=.cells cs.toArray e (0,0)) (.cells xs.toArray e (0,0)) (by simp)
  simpa only[List.set_cons_zero] using h6
theorem copyNX {P:Program} {wb:World} {L:Own} {t ty e:TypeId} {b c size:Nat} {sa:Option Addr} {K:Value→World→Own→Prop} (hu:P.underlying t=some (.slice e)) (hs:(P.info? e).map (·.size)=some size) (hK:∀ u,K u wb L) :
 ValX P (Builtin.copy_ #[t,t] ty #[.slice (some ⟨b,0,none⟩) 0 0,.slice sa 0 c]) wb L (tag K):=by
 intro w hw
 cases hq:P.info? e with
 | none=>simp[hq] at hs
 | some i =>
  refine ⟨goInt 0,w,wb,L,?_,hw,hK _⟩
  cases sa with
  | none=>simp[Builtin.copy_,run_underlying hu,Builtin.lenOf,Builtin.firstCells,sizeOf,typeInfo,hq,storeCells]
  | some a =>
   have hl:=run_firstCells_some (P:=P) w i.size 0 a 0 c [] (by simp) (by simp)
   simp[Builtin.copy_,run_underlying hu,Builtin.lenOf,sizeOf,typeInfo,hq,storeCells,hl]
theorem infoNoteC:(Tryz.prog.info? 90).map (fun i=>(i.zero,i.size,i.bytes))=some (some (.agg #[str [],str []]),2,32):=by kernel_rfl
def notesC (nt:List NoteT):List Value:=nt.flatMap fun n=>[str n.1,str n.2]
theorem notesC_len:∀ nt:List NoteT,(notesC nt).length=nt.length * 2
 | []=>rfl
 | n::l=>by have:=notesC_len l; simp only[notesC,List.flatMap_cons,qA,qN,qO] at this ⊢; omega
theorem notesC_one (nt:List NoteT):∀ u∈notesC nt,u.oneCell'=true:=fun u hu=>by
 obtain ⟨n,_,hu⟩:=List.mem_flatMap.1 hu
 simp only[qM,qI,or_false] at hu
 rcases hu with rfl|rfl<;>rfl
theorem notesC_get:∀ {nt:List NoteT} {i:Nat} {n:NoteT},nt[i]?=some n→((notesC nt).drop (i * 2)).take 2=[str n.1,str n.2]
 | [],i,n,h=>by simp at h
 | m::l,0,n,h=>by simp only[List.getElem?_cons_zero,Option.some.injEq] at h; subst h; rfl
 | m::l,i+1,n,h=>by
  simp only[List.getElem?_cons_succ] at h
  have:=notesC_get h
  rw[show (i+1) * 2=2+i * 2 by omega,← List.drop_drop]
  exact this
theorem notes_at {w:World} {b:Nat}:∀ {nt:List NoteT} {off:Nat},nt≠[]→(∀ i n,nt[i]?=some n→At w b (off+i * 2) [str n.1,str n.2])→At w b off (notesC nt)
 | [],_,h,_=>absurd rfl h
 | [n],off,_,h=>by simpa [notesC] using h 0 n rfl
 | n::m::l,off,_,h=>by
  have h1:=h 0 n rfl
  rw[Nat.zero_mul,Nat.add_zero] at h1
  have h2:=notes_at (nt:=m::l) (off:=off+2) (by simp) (fun i x hx=>by
   have:=h (i+1) x (un hx)
   rw[show off+2+i * 2=off+(i+1) * 2 by omega]
   exact this)
  exact At.app h1 h2
theorem canRead_at {wb:World} {L:Own} {b off:Nat} {xs:List Value} (h:At wb b off xs) (hL:∀ p∈L,wb.heap.size≤p.1):CanRead wb L ⟨b,off,none⟩ xs:=fun w hw j v hj=>by
 have hat:At w b off xs:=h.of_block (hw.rest b h.lt (out_of fun p hp=>Nat.lt_of_lt_of_le h.lt (hL p hp)))
 have ha:(⟨b,off,none⟩:Addr).add j=⟨b,off+j,none⟩:=by
  unfold Addr.add; split
  ·rename_i h0; subst h0; rfl
  ·rfl
 rw[ha]
 exact hat.cell j v hj
def CopySch (v:Value) (M:Own) (l:List Fld) (nt:List NoteT):Prop:=∃ (a':Option Addr) (nb:Nat) (K:Own),v=.agg #[.slice a' l.length l.length,.slice (some ⟨nb,0,none⟩) nt.length nt.length]∧M=(nb,Obj.cells (notesC nt).toArray 90 (0,0))::K∧OwS l K a' l.length
theorem copySchema_walk (w:World) (lo:Nat) (hlo:lo≤w.heap.size) (a:Option Addr) (l:List Fld) (c:Nat) (na:Option Addr) (nt:List NoteT) (nc:Nat) (hsc:SchAt w lo a l c na nt nc) (hl:l.length≤1048576) (hwd:wideL 1048576 l=true) (hnt:nt.length≤8796093022208) :
 Calls Tryz.prog 15 #[.agg #[.slice a l.length c,.slice na nt.length nc]] w (RetsN w (fun v M=>CopySch v M l nt)):=by
 refine enterT (args:=[.agg #[.slice a l.length c,.slice na nt.length nc]]) Tryz.func15 rfl Tryz.ntmps15 (congrArg Array.toList Tryz.results15) (by kernel_rfl) (by simp) (Sy.refl w) ?_
 refine sp ?_
 refine newI (fun b1 hb1 hn1=>?_)
 refine sp ?_
 refine newI (fun b2 hb2 hn2=>?_)
 refine sp ?_
 refine lOn Shp.eq mem1 rfl ?_
 refine sp ?_
 refine makeFullX .i64 .i64 un_25 infoNoteC rfl (n:=nt.length) (by omega) (by omega) (fun nb cs0 hnb hnbn hcs0=>?_)
 refine sp ?_
 refine lOn Shp.eq mem2 rfl ?_
 refine sp ?_
 have hL3:∀ x y z:Obj,∀ p∈[(nb,x),(b2,y),(b1,z)],w.heap.size≤p.1:=fun x y z p hp=>by
  simp only[qM,qI,or_false] at hp
  rcases hp with rfl|rfl|rfl<;>assumption
 rcases Classical.em (nt=[]) with rfl|hne
 ·obtain rfl:cs0=[]:=List.eq_nil_of_length_eq_zero (un hcs0)
  refine copyNX un_25 (size:=2) (by kernel_rfl) (fun u=>?_)
  refine sp ?_
  refine lOn Shp.eq mem2 rfl ?_
  refine sp ?_
  refine callV en_16 (callX_newR (fun w' hw'=>copyFields_walk w' lo l a c (Nat.le_trans hlo hw'.size) (hsc.hr.sy hlo hw' (fun p hp=>Nat.le_trans hlo (hL3 _ _ _ p hp))) hsc.hc hsc.hc2 hl hwd) (fun u M hM hMn hu=>?_))
  obtain ⟨a',rfl,hO⟩:=hu
  refine sp ?_
  refine sXa 1 rfl Siz.eq rfl rfl ?_
  refine sp ?_
  refine lAg Shp.eq mem1 rfl rfl ?_
  refine sp ?_
  exact fun w' hw'=>⟨_,(nb,Obj.cells #[] 90 (0,0))::M,rfl,hw'.mid [_] [_,_] (fun p hp=>by
   simp only[qM,qI,or_false] at hp
   rcases hp with rfl|rfl<;>assumption),(nC hnb hM),a',nb,M,rfl,rfl,hO⟩
 ·rcases hsc.hn with h0|⟨ns,off,rfl,hnlo,hnr⟩
  ·exact absurd h0 hne
  refine copyRX un_25 (size:=2) (by kernel_rfl) hcs0 (notesC_len nt) (canRead_at (notes_at hne fun i n hi=>(hnr i n hi).2.2) (hL3 _ _ _)) (notesC_one nt) (fun u=>?_)
  refine sp ?_
  refine lOn Shp.eq mem2 rfl ?_
  refine sp ?_
  refine callV en_16 (callX_newR (fun w' hw'=>copyFields_walk w' lo l a c (Nat.le_trans hlo hw'.size) (hsc.hr.sy hlo hw' (fun p hp=>Nat.le_trans hlo (hL3 _ _ _ p hp))) hsc.hc hsc.hc2 hl hwd) (fun u M hM hMn hu=>?_))
  obtain ⟨a',rfl,hO⟩:=hu
  refine sp ?_
  refine sXa 1 rfl Siz.eq rfl rfl ?_
  refine sp ?_
  refine lAg Shp.eq mem1 rfl rfl ?_
  refine sp ?_
  exact fun w' hw'=>⟨_,(nb,Obj.cells (notesC nt).toArray 90 (0,0))::M,rfl,hw'.mid [_] [_,_] (fun p hp=>by
   simp only[qM,qI,or_false] at hp
   rcases hp with rfl|rfl<;>assumption),(nC hnb hM),a',nb,M,rfl,rfl,hO⟩
set_option maxHeartbeats 1000000
mutual
def leftF:Fld→Int→Int
 | .mk _ _ _ _ _ _ sub,m=>if m - 1 < 0 then -1 else leftL sub (m - 1)
def leftL:List Fld→Int→Int
 | [],m=>m
 | f::l,m=>if leftF f m < 0 then -1 else leftL l (leftF f m)
end
theorem leftF_iff (f:Fld) (m:Int):leftF f m=if m - 1 < 0 then -1 else leftL f.sub (m - 1):=by cases f; rw[leftF]; rfl
mutual
theorem leftF_ok:∀ (f:Fld) (m:Int) (N:Nat),0≤leftF f m→m≤N→leftF f m+1≤m∧wideF N f=true
 | .mk nm nl k wd id ix sub,m,N,h,hN=>by
  rw[leftF] at h ⊢
  split at h
  ·omega
  rename_i h1
  rw[if_neg h1]
  obtain ⟨h2,h3⟩:=leftL_ok sub (m - 1) N h (by omega)
  rw[wideF,Bool.and_eq_true]
  exact ⟨by omega,decide_eq_true (by omega),h3⟩
theorem leftL_ok:∀ (l:List Fld) (m:Int) (N:Nat),0≤leftL l m→m≤N→(l.length:Int)+leftL l m≤m∧wideL N l=true
 | [],m,N,h,hN=>by rw[leftL,wideL]; simp
 | f::l,m,N,h,hN=>by
  rw[leftL] at h ⊢
  split at h
  ·omega
  rename_i h1
  rw[if_neg h1]
  obtain ⟨h2,h3⟩:=leftF_ok f m N (by omega) hN
  obtain ⟨h4,h5⟩:=leftL_ok l (leftF f m) N h (by omega)
  rw[wideL,Bool.and_eq_true,qN]
  exact ⟨by omega,h3,h5⟩
end
def LeftOK (n:Nat):Prop:=∀ (w:World) (lo:Nat) (l:List Fld) (a:Option Addr) (c:Nat) (m:Int),SizeOf.sizeOf l≤n→lo≤w.heap.size→Rd w lo a l→l.length≤9223372036854775807→0≤m→m≤1048576 →
 Calls Tryz.prog 52 #[.slice a l.length c,i64 m] w (Rets w (Is (i64 (leftL l m))))
structure LfI (w0:World) (l:List Fld) (a:Option Addr) (c:Nat) (m:Int) (i:Nat) (wb:World) (e:Env) (ds:List Deferred) (L:Own):Prop where
 hw:wb=w0
 hds:ds=[]
 o:L=[]
 il:i≤l.length
 r:∃ k:Int,e 1=i64 k∧0≤k∧k≤1048576∧leftL l m=leftL (l.drop i) k
 h6:e 6=.slice a l.length c
 h0:e 0=.slice a l.length c
 h7:e 7=i64 l.length
 h8:e 8=i64 i
theorem left_step (n:Nat) (hT:LeftOK n):LeftOK (n+1):=by
 intro w lo l a c m hn hlo hr hl hm hm2
 refine enterT (args:=[.slice a l.length c,i64 m]) Tryz.func52 rfl Tryz.ntmps52 (congrArg Array.toList Tryz.results52) (by kernel_rfl) (by simp) (Sy.refl w) ?_
 refine sp ?_
 rw[Vb]
 refine sp ?_
 refine loopT (G:=Nat) (LfI w l a c m) (fun i=>l.length - i) 0 (by kernel_rfl) ⟨rfl,rfl,rfl,by omega,⟨m,rfl,hm,hm2,rfl⟩,rfl,rfl,rfl,rfl⟩ ?_
 rintro i wb e ds L ⟨rfl,rfl,rfl,hil,⟨k,h1,hk,hk2,hk3⟩,h6,h0,h7,h8⟩
 simp (disch:=omega) only[push_cast,qE,h0,h1,h6,h7,h8]
 rw[Vc]
 simp (disch:=omega) only[push_cast,qE,h0,h1,h6,h7,h8]
 refine cdD (fun hlt=>?_) (fun hge=>?_)
 rotate_left
 ·obtain rfl:i=l.length:=by omega
  rw[List.drop_length,leftL] at hk3
  simp (disch:=omega) only[push_cast,qE,h0,h1,h6,h7,h8]
  exact finIs (by simp) (by rw[hk3])
 obtain ⟨f,hf⟩:∃ f,l[i]?=some f:=⟨_,List.getElem?_eq_getElem (by omega)⟩
 have hdrop:l.drop i=f::l.drop (i+1):=by
  obtain ⟨q1,rfl⟩:=List.getElem?_eq_some_iff.1 hf
  exact List.drop_eq_getElem_cons q1
 rw[hdrop,leftL,leftF_iff] at hk3
 have hszf:SizeOf.sizeOf f.sub≤n:=by
  have q1:=List.sizeOf_lt_of_mem (List.mem_of_getElem? hf)
  have q2:SizeOf.sizeOf f.sub < SizeOf.sizeOf f:=by cases f; simp only[Fld.sub,Fld.mk.sizeOf_spec]; omega
  omega
 obtain ⟨b,off,rfl,hb⟩:∃ b off,a=some ⟨b,off,none⟩∧b < lo:=by
  obtain ⟨f0,l0,rfl⟩:∃ f l',l=f::l':=List.exists_cons_of_ne_nil (by rintro rfl; simp at hf)
  exact hr.some_of
 obtain ⟨fa,fc,x1,x2,x3,x4,x5,x6⟩:=hr.get i hf
 simp (disch:=omega) only[push_cast,qE,h0,h1,h6,h7,h8]
 rw[Vb]
 simp (disch:=omega) only[push_cast,qE,h0,h1,h6,h7,h8]
 rw[Vc]
 simp (disch:=omega) only[push_cast,qE,h0,h1,h6,h7,h8]
 refine cdD (fun hlt2=>?_) (fun hge2=>?_)
 ·rw[if_pos hlt2,if_pos (by omega)] at hk3
  simp (disch:=omega) only[push_cast,qE,h0,h1,h6,h7,h8]
  exact finIs (by simp) (by rw[hk3])
 rw[if_neg hge2] at hk3
 simp (disch:=omega) only[push_cast,qE,h0,h1,h6,h7,h8]
 refine ldF Shp.eq (x2.sub 6 [.slice fa f.sub.length fc] rfl) (out_of (fun p hp=>by cases hp)) ?_
 simp (disch:=omega) only[push_cast,qE,h0,h1,h6,h7,h8]
 refine callV en_52 (cIs (fun w' hw'=>hT w' lo f.sub fa fc (k - 1) hszf (Nat.le_trans hlo hw'.size) (x6.sy hlo hw' (by simp)) (by omega) (by omega) (by omega)) ?_)
 simp (disch:=omega) only[push_cast,qE,h0,h1,h6,h7,h8]
 rw[Vc]
 simp (disch:=omega) only[push_cast,qE,h0,h1,h6,h7,h8]
 refine cdD (fun hlt3=>?_) (fun hge3=>?_)
 ·rw[if_pos hlt3] at hk3
  simp (disch:=omega) only[push_cast,qE,h0,h1,h6,h7,h8]
  exact finIs (by simp) (by rw[hk3])
 rw[if_neg hge3] at hk3
 simp (disch:=omega) only[push_cast,qE,h0,h1,h6,h7,h8]
 have hle:=(leftL_ok f.sub (k - 1) 1048576 (by omega) (by omega)).1
 exact ⟨i+1,⟨rfl,rfl,rfl,by omega,⟨_,uu,by omega,by omega,hk3⟩,h6,h0,h7,uu⟩,by omega⟩
theorem left_all:∀ n,LeftOK n:=by
 intro n
 induction n with
 | zero =>
  intro w lo l a c m hn
  cases l<;>simp at hn
 | succ n ih=>exact left_step n ih
theorem smallN_walk (w:World) (lo:Nat) (hlo:lo≤w.heap.size) (l:List Fld) (a:Option Addr) (c:Nat) (hr:Rd w lo a l) (hl:l.length≤9223372036854775807) :
 Calls Tryz.prog 14 #[.slice a l.length c,i64 1048576] w (Rets w (Is (.bool (decide (0≤leftL l 1048576))))):=by
 refine enterT (args:=[.slice a l.length c,i64 1048576]) Tryz.func14 rfl Tryz.ntmps14 (congrArg Array.toList Tryz.results14) (by kernel_rfl) (by simp) (Sy.refl w) ?_
 refine sp ?_
 refine callV en_52 (cIs (fun w' hw'=>left_all _ w' lo l a c 1048576 (Nat.le_refl _) (Nat.le_trans hlo hw'.size) (hr.sy hlo hw' (by simp)) hl (by omega) (by omega)) ?_)
 refine sp ?_
 exact finIs (by simp) rfl
theorem holderR_walk (w:World) (lo:Nat) (hlo:lo≤w.heap.size) (f:Fld) (a:Option Addr) (c:Nat) (hT:TyAt w lo f a c) :
 Calls Tryz.prog 99 #[tyV f a c] w (Rets w (Is (.agg ((holdR f).cells a c).toArray))):=by
 refine enterT (args:=[tyV f a c]) Tryz.func99 rfl Tryz.ntmps99 (congrArg Array.toList Tryz.results99) (by kernel_rfl) (by simp) (Sy.refl w) ?_
 simp (disch:=omega) only[push_cast,qE,Fld.tcells]
 refine newI (fun b1 hb1 hn1=>?_)
 simp (disch:=omega) only[push_cast,qE,Fld.tcells]
 refine newI (fun b2 hb2 hn2=>?_)
 simp (disch:=omega) only[push_cast,qE,Fld.tcells]
 refine lAg Shp.eq mem1 rfl rfl ?_
 refine sp ?_
 refine newI (fun b3 hb3 hn3=>?_)
 refine sp ?_
 refine sXa 0 rfl Siz.eq rfl rfl ?_
 refine sp ?_
 have hL:∀ x y z:Obj,∀ p∈[(b3,x),(b2,y),(b1,z)],w.heap.size≤p.1:=fun x y z p hp=>by
  simp only[qM,qI,or_false] at hp
  rcases hp with rfl|rfl|rfl<;>assumption
 refine lOn Shp.eq mem2 rfl ?_
 refine sp ?_
 have hval:∀ v:Bool,v=(holdR f).nl→Value.agg #[str [97],.bool v,i64 f.k,i64 f.wd,i64 f.id,i64 f.ix,.slice a f.sub.length c]=.agg ((holdR f).cells a c).toArray:=fun v hv=>by subst hv; rfl
 by_cases h1:f.k=1
 ·have d1:decide (f.k=1)=true:=decide_eq_true h1
  simp (disch:=omega) only[push_cast,qE,d1]
  repeat' (first|((first|((first|refine gT rfl ?_ ?_|refine gF rfl ?_ ?_|refine cdD ?_ ?_)<;>intro h)|((first|refine gbT rfl ?_ ?_|refine gbF rfl ?_ ?_|refine cdB ?_ ?_)<;>intro h<;>(try subst h))|refine lOa Shp.eq rfl ?_|refine lAa Shp.eq rfl rfl ?_|refine newI (fun b hb hn=>?_)|refine sXb Siz.eq rfl rfl ?_)<;>simp (disch:=omega) only[push_cast,qE,d1])|(first|rw[Vc]|rw[Vb])<;>(try simp (disch:=omega) only[push_cast,qE,d1]))
  exact finIs (hL _ _ _) (hval _ (by simp[holdR,Fld.nl,h1]))
 have d1:decide (f.k=1)=false:=decide_eq_false h1
 simp (disch:=omega) only[push_cast,qE,d1]
 repeat' (first|((first|((first|refine gT rfl ?_ ?_|refine gF rfl ?_ ?_|refine cdD ?_ ?_)<;>intro h)|((first|refine gbT rfl ?_ ?_|refine gbF rfl ?_ ?_|refine cdB ?_ ?_)<;>intro h<;>(try subst h))|refine lOa Shp.eq rfl ?_|refine lAa Shp.eq rfl rfl ?_|refine newI (fun b hb hn=>?_)|refine sXb Siz.eq rfl rfl ?_)<;>simp (disch:=omega) only[push_cast,qE,d1])|(first|rw[Vc]|rw[Vb])<;>(try simp (disch:=omega) only[push_cast,qE,d1]))
 rotate_left
 ·exact finIs (hL _ _ _) (hval _ (by simp_all [holdR,Fld.nl]; omega))
 ·exact finIs (hL _ _ _) (hval _ (by simp_all [holdR,Fld.nl]))
 have hlen:f.sub.length=1:=by omega
 obtain ⟨g,l,hl⟩:∃ g l,f.sub=g::l:=List.exists_cons_of_ne_nil (fun h0=>by rw[h0] at hlen; simp at hlen)
 have hpos:0 < f.sub.length:=by omega
 have hr:=hT.hr
 rw[hl] at hr
 obtain ⟨b',off,rfl,hb'⟩:=hr.some_of
 obtain ⟨a',c',x1,x2,x3⟩:=hr.get 0 rfl
 refine sp ?_
 refine ldF Shp.eq (x2.sub 1 [.bool g.nl] rfl) (out_of (fun p hp=>Nat.lt_of_lt_of_le (Nat.lt_of_lt_of_le x1 hlo) (hL _ _ _ p hp))) ?_
 refine sp ?_
 repeat' (first|((first|((first|refine gT rfl ?_ ?_|refine gF rfl ?_ ?_|refine cdD ?_ ?_)<;>intro h)|((first|refine gbT rfl ?_ ?_|refine gbF rfl ?_ ?_|refine cdB ?_ ?_)<;>intro h<;>(try subst h))|refine lOa Shp.eq rfl ?_|refine lAa Shp.eq rfl rfl ?_|refine newI (fun b hb hn=>?_)|refine sXb Siz.eq rfl rfl ?_)<;>simp (disch:=omega) only[push_cast,qE])|(first|rw[Vc]|rw[Vb])<;>(try simp (disch:=omega) only[push_cast,qE]))
 refine finIs (hL _ _ _) (hval _ ?_)
 simp_all [holdR,Fld.nl,subNl]
theorem mayBe_walk (w:World) (lo:Nat) (hlo:lo≤w.heap.size) (f:Fld) (a:Option Addr) (c:Nat) (hf:Rd w lo a f.sub) (hfc:f.sub.length≤c) (hc2:c≤9223372036854775807) (hfn:f.nm.length≤9223372036854775807) :
 Calls Tryz.prog 98 #[.agg #[str f.nm,.bool f.nl,i64 f.k,i64 f.wd,i64 f.id,i64 f.ix,.slice a f.sub.length c]] w (Rets w (Is (.bool (mayP [f] [])))):=by
 refine enterT (args:=[.agg #[str f.nm,.bool f.nl,i64 f.k,i64 f.wd,i64 f.id,i64 f.ix,.slice a f.sub.length c]]) Tryz.func98 rfl Tryz.ntmps98 (congrArg Array.toList Tryz.results98) (by kernel_rfl) (by simp) (Sy.refl w) ?_
 refine sp ?_
 refine newI (fun b1 hb1 hn1=>?_)
 have hL:∀ p∈[(qb0 b1 f a c)],w.heap.size≤p.1:=fun p hp=>by rw[List.mem_singleton.1 hp]; exact hb1
 refine sp ?_
 repeat' (first|((first|((first|refine gT rfl ?_ ?_|refine gF rfl ?_ ?_|refine cdD ?_ ?_)<;>intro h)|((first|refine gbT rfl ?_ ?_|refine gbF rfl ?_ ?_|refine cdB ?_ ?_)<;>intro h<;>(try subst h))|refine lOa Shp.eq rfl ?_|refine lAa Shp.eq rfl rfl ?_|refine newI (fun b hb hn=>?_)|refine sXb Siz.eq rfl rfl ?_)<;>simp (disch:=omega) only[push_cast,qE]))
 refine callV en_51 (callX_newR (fun w' hw'=>checkFieldR_walk w' lo (Nat.le_trans hlo hw'.size) f a c (hf.sy hlo hw' (fun p hp=>Nat.le_trans hlo (hL p hp))) hfc hc2 hfn) (fun v M hM hMn hS=>?_))
 obtain ⟨pa,pc,rfl,_⟩:=hS
 refine sp ?_
 refine finIs (fun p hp=>?_) (congrArg Value.bool ?_)
 ·rcases List.mem_cons.1 hp with rfl|hp
  ·exact hb1
  ·exact hM p hp
 ·unfold mayP
  rw[Bool.eq_iff_iff]
  simp
theorem typeMayBe_walk (w:World) (lo:Nat) (hlo:lo≤w.heap.size) (f:Fld) (a:Option Addr) (c:Nat) (hT:TyAt w lo f a c) :
 Calls Tryz.prog 67 #[tyV f a c] w (Rets w (Is (.bool (mayT f)))):=by
 refine enterT (args:=[tyV f a c]) Tryz.func67 rfl Tryz.ntmps67 (congrArg Array.toList Tryz.results67) (by kernel_rfl) (by simp) (Sy.refl w) ?_
 simp (disch:=omega) only[push_cast,qE,Fld.tcells]
 refine newI (fun b1 hb1 hn1=>?_)
 simp (disch:=omega) only[push_cast,qE,Fld.tcells]
 refine lAg Shp.eq mem0 rfl rfl ?_
 refine sp ?_
 have hL:∀ x:Obj,∀ p∈[(b1,x)],w.heap.size≤p.1:=fun x p hp=>by rw[List.mem_singleton.1 hp]; exact hb1
 refine callV en_99 (cIs (fun w' hw'=>holderR_walk w' lo (Nat.le_trans hlo hw'.size) f a c (hT.sy hlo hw' (hL _))) ?_)
 simp (disch:=omega) only[push_cast,qE,Fld.cells]
 refine callV en_98 (cIs (fun w' hw'=>mayBe_walk w' lo (Nat.le_trans hlo hw'.size) (holdR f) a c (hT.sy hlo hw' (hL _)).hr hT.hc hT.hc2 (by simp[holdR,Fld.nm])) ?_)
 refine sp ?_
 exact finIs (hL _) (by rw[hold_may])
theorem ends_walk (w:World):Calls Tryz.prog 68 #[] w (Rets w (Is (.agg (endsF.cells none 0).toArray))):=by
 refine enterT (args:=[]) Tryz.func68 rfl Tryz.ntmps68 (congrArg Array.toList Tryz.results68) (by kernel_rfl) (by simp) (Sy.refl w) ?_
 refine sp ?_
 repeat' (first|((first|((first|refine gT rfl ?_ ?_|refine gF rfl ?_ ?_|refine cdD ?_ ?_)<;>intro h)|((first|refine gbT rfl ?_ ?_|refine gbF rfl ?_ ?_|refine cdB ?_ ?_)<;>intro h<;>(try subst h))|refine lOa Shp.eq rfl ?_|refine lAa Shp.eq rfl rfl ?_|refine newI (fun b hb hn=>?_)|refine sXb Siz.eq rfl rfl ?_)<;>simp (disch:=omega) only[push_cast,qE])|(first|rw[Vc]|rw[Vb])<;>(try simp (disch:=omega) only[push_cast,qE]))
 exact finIs (by simp only[List.mem_singleton]; rintro p rfl; assumption) rfl
def PartS (w:World) (lo:Nat) (v:Value) (M:Own) (l:List Fld):Prop:=∃ a c,v=.slice a l.length c∧l.length≤c∧∀ w',(∀ k,k < lo→w'.heap[k]?=w.heap[k]?)→lo≤w'.heap.size→Held w' M→Rd w' w'.heap.size a l
theorem partsR_walk (w:World) (lo:Nat) (hlo:lo≤w.heap.size) (f:Fld) (a:Option Addr) (c:Nat) (hT:TyAt w lo f a c) :
 Calls Tryz.prog 29 #[tyV f a c] w (RetsN w (fun v M=>PartS w lo v M (partsP f))):=by
 refine enterB (args:=[tyV f a c]) Tryz.func29 rfl Tryz.ntmps29 (congrArg Array.toList Tryz.results29) (by kernel_rfl) (by simp) (Sy.refl w) ?_
 simp (disch:=omega) only[push_cast,qE,Fld.tcells]
 refine newI (fun b1 hb1 hn1=>?_)
 simp (disch:=omega) only[push_cast,qE,Fld.tcells]
 refine lAg Shp.eq mem0 rfl rfl ?_
 refine sp ?_
 have hL:∀ x:Obj,∀ p∈[(b1,x)],w.heap.size≤p.1:=fun x p hp=>by rw[List.mem_singleton.1 hp]; exact hb1
 have hnil:∀ v,partsP f=[]→v=.slice none 0 0→∀ x w',Sy w [(b1,x)] w'→RetsN w (fun v M=>PartS w lo v M (partsP f)) (.returned v) w':=fun v hp hv x w' hw'=>by
  subst hv
  rw[hp]
  exact ⟨_,[],rfl,hw'.end (hL x),by simp,none,0,rfl,by simp,fun w' _ _ _=>.nil _⟩
 refine callV en_67 (cIs (fun w' hw'=>typeMayBe_walk w' lo (Nat.le_trans hlo hw'.size) f a c (hT.sy hlo hw' (hL _))) ?_)
 refine sp ?_
 rcases hm:mayT f with _|_
 ·simp only[Bool.not_false]
  refine sp ?_
  repeat' (first|((first|((first|refine gT rfl ?_ ?_|refine gF rfl ?_ ?_|refine cdD ?_ ?_)<;>intro h)|((first|refine gbT rfl ?_ ?_|refine gbF rfl ?_ ?_|refine cdB ?_ ?_)<;>intro h<;>(try subst h))|refine lOa Shp.eq rfl ?_|refine lAa Shp.eq rfl rfl ?_|refine newI (fun b hb hn=>?_)|refine sXb Siz.eq rfl rfl ?_)<;>simp (disch:=omega) only[push_cast,qE])|(first|rw[Vc]|rw[Vb])<;>(try simp (disch:=omega) only[push_cast,qE]))
  exact fun w' hw'=>hnil _ (by simp[partsP,hm]) rfl _ w' hw'
 obtain ⟨hk,hx⟩:=may_kinds hm
 simp only[Bool.not_true]
 refine sp ?_
 refine lOn Shp.eq mem0 rfl ?_
 refine sp ?_
 rw[Vc]
 refine sp ?_
 refine cdD (fun h19=>?_) (fun h19=>?_)
 ·refine sp ?_
  exact fun w' hw'=>hnil _ (by simp[partsP,h19]) rfl _ w' hw'
 refine sp ?_
 refine lOn Shp.eq mem0 rfl ?_
 refine sp ?_
 rw[Vc]
 refine sp ?_
 refine cdD (fun h20=>?_) (fun h20=>?_)
 rotate_left
 ·refine sp ?_
  refine lOn Shp.eq mem0 rfl ?_
  refine sp ?_
  have hp:partsP f=f.sub:=by simp[partsP,hm,h19,h20]
  rw[hp]
  exact fun w' hw'=>⟨_,[],rfl,hw'.end (hL _),by simp,a,c,rfl,hT.hc,fun w' h1 h2 _=>(hT.hr.mono h1).weaken h2⟩
 have hp:partsP f=endsF::f.sub:=by simp[partsP,hm,h20]
 rw[hp]
 have h1l:=runs_one (mayT_shaped hm) h20
 have hpos:0 < f.sub.length:=by omega
 obtain ⟨g,l,hl⟩:∃ g l,f.sub=g::l:=List.exists_cons_of_ne_nil (fun h0=>by rw[h0] at h1l; simp at h1l)
 obtain rfl:l=[]:=by
  rw[hl] at h1l
  exact List.eq_nil_of_length_eq_zero (un h1l)
 have hr:=hT.hr
 rw[hl] at hr
 obtain ⟨b',off,rfl,hb'⟩:=hr.some_of
 obtain ⟨a',c',x1,x2,x3,x4,x5,x6⟩:=hr.get 0 rfl
 refine sp ?_
 refine freeT [1,2,3,4] [0,5,6] [(b1,Obj.cells #[i64 f.k,i64 f.wd,i64 f.id,i64 f.ix,.slice (some ⟨b',off,none⟩) f.sub.length c] 35 (0,0))] (by kernel_rfl) mixed (by kernel_rfl) (fun w hw=>hw) ?_
 refine sp ?_
 refine lOn Shp.eq mem0 rfl ?_
 refine sp ?_
 refine ldAggF Shp.eq x2 rfl (out_of (fun p hp=>Nat.lt_of_lt_of_le (Nat.lt_of_lt_of_le x1 hlo) (hL _ p hp))) ?_
 simp (disch:=omega) only[push_cast,qE,Fld.cells]
 refine callV en_68 (cIs (fun w' hw'=>ends_walk w') ?_)
 simp (disch:=omega) only[push_cast,qE,Fld.cells]
 refine ⟨fun w hw=>hw,bs_24_2 (newI fun b9 hb9 hn9=>?_)⟩
 refine sp ?_
 have hL9:∀ x y:Obj,∀ p∈[(b9,x),(b1,y)],w.heap.size≤p.1:=fun x y p hp=>by
  simp only[qM,qI,or_false] at hp
  rcases hp with rfl|rfl<;>assumption
 refine ⟨fun w hw=>hw.drop (List.sublist_cons_self _ _) (fun p hp=>.inr (hL9 _ _ p hp)),?_⟩
 refine ⟨fun w hw=>hw.drop (List.sublist_cons_self _ _) (fun p hp=>.inr (hL9 _ _ p hp)),?_⟩
 refine fun w' hw'=>⟨_,[(b9,Obj.cells (endsF.cells none 0++g.cells a' c').toArray 37 (0,0))],rfl,hw'.drop (.cons_cons _ (List.nil_sublist _)) (fun p hp=>.inr (hL9 _ _ p hp)),fun p hp=>by rw[List.mem_singleton.1 hp]; exact hb9,some ⟨b9,0,none⟩,2,?_,?_,fun w2 h1 h2 h3=>?_⟩
 ·rw[hl]; rfl
 ·rw[hl]; simp
 ·have hb:=h3 _ (.head _)
  have hlt:b9 < w2.heap.size:=(Array.getElem?_eq_some_iff.1 hb).1
  rw[hl]
  exact .cons hlt (by simp[endsF,Fld.sub]) (by simp[endsF,Fld.nm]) (by omega) ⟨_,_,_,hb,rfl⟩ (.nil _) (.cons hlt x3 x4 x5 ⟨_,_,_,hb,rfl⟩ ((x6.mono h1).weaken h2) (.nil _))
set_option maxHeartbeats 4000000
def alikeSP (l m:List Fld) (nt nt':List NoteT):Bool:=mayP l nt && mayP m nt' && sameL l m
abbrev fT (l:List Fld):Fld:=.mk [] false 0 0 0 0 l
theorem alikeSchemas_walk (w:World) (hs:SaysAt w) (lo:Nat) (hlo:lo≤w.heap.size) (a:Option Addr) (l:List Fld) (c:Nat) (na:Option Addr) (nt:List NoteT) (nc:Nat) (h:SchAt w lo a l c na nt nc) (a':Option Addr) (m:List Fld) (c':Nat) (na':Option Addr) (nt':List NoteT) (nc':Nat) (h':SchAt w lo a' m c' na' nt' nc') :
 Calls Tryz.prog 20 #[schV a l c na nt nc,schV a' m c' na' nt' nc'] w (Rets w (Is (.bool (alikeSP l m nt nt')))):=by
 refine enterT (args:=[schV a l c na nt nc,schV a' m c' na' nt' nc']) Tryz.func20 rfl Tryz.ntmps20 (congrArg Array.toList Tryz.results20) (by kernel_rfl) (by simp) (Sy.refl w) ?_
 simp (disch:=omega) only[push_cast,qE,schV]
 refine newI (fun b2 hb2 hn2=>?_)
 refine sp ?_
 refine newI (fun b3 hb3 hn3=>?_)
 have hL:∀ x y,∀ p∈[(b3,(x:Obj)),(b2,y)],w.heap.size≤p.1:=fun x y p hp=>by
  simp only[qM,qI,or_false] at hp
  rcases hp with rfl|rfl<;>assumption
 refine sp ?_
 repeat' (first|((first|((first|refine gT rfl ?_ ?_|refine gF rfl ?_ ?_|refine cdD ?_ ?_)<;>intro h)|((first|refine gbT rfl ?_ ?_|refine gbF rfl ?_ ?_|refine cdB ?_ ?_)<;>intro h<;>(try subst h))|refine lOa Shp.eq rfl ?_|refine lAa Shp.eq rfl rfl ?_|refine newI (fun b hb hn=>?_)|refine sXb Siz.eq rfl rfl ?_)<;>simp (disch:=omega) only[push_cast,qE]))
 have k1:=fun w' x y hw'=>h.sy hlo (w':=w') hw' (fun p hp=>Nat.le_trans hlo (hL x y p hp))
 have k2:=fun w' x y hw'=>h'.sy hlo (w':=w') hw' (fun p hp=>Nat.le_trans hlo (hL x y p hp))
 refine callV en_56 (cIs (fun w' hw'=>may_walk w' (hs.mono hw' (hL _ _)) lo (Nat.le_trans hlo hw'.size) a l c na nt nc (k1 w' _ _ hw')) ?_)
 refine sp ?_
 refine gbT rfl (fun h1=>?_) (fun h1=>?_)
 ·refine sp ?_
  repeat' (first|((first|((first|refine gT rfl ?_ ?_|refine gF rfl ?_ ?_|refine cdD ?_ ?_)<;>intro h)|((first|refine gbT rfl ?_ ?_|refine gbF rfl ?_ ?_|refine cdB ?_ ?_)<;>intro h<;>(try subst h))|refine lOa Shp.eq rfl ?_|refine lAa Shp.eq rfl rfl ?_|refine newI (fun b hb hn=>?_)|refine sXb Siz.eq rfl rfl ?_)<;>simp (disch:=omega) only[push_cast,qE]))
  refine callV en_56 (cIs (fun w' hw'=>may_walk w' (hs.mono hw' (hL _ _)) lo (Nat.le_trans hlo hw'.size) a' m c' na' nt' nc' (k2 w' _ _ hw')) ?_)
  refine sp ?_
  refine gbT rfl (fun h2=>?_) (fun h2=>?_)
  ·refine sp ?_
   repeat' (first|((first|((first|refine gT rfl ?_ ?_|refine gF rfl ?_ ?_|refine cdD ?_ ?_)<;>intro h)|((first|refine gbT rfl ?_ ?_|refine gbF rfl ?_ ?_|refine cdB ?_ ?_)<;>intro h<;>(try subst h))|refine lOa Shp.eq rfl ?_|refine lAa Shp.eq rfl rfl ?_|refine newI (fun b hb hn=>?_)|refine sXb Siz.eq rfl rfl ?_)<;>simp (disch:=omega) only[push_cast,qE]))
   refine callV en_59 (cIs (fun w' hw'=>same_walk w' lo (Nat.le_trans hlo hw'.size) (fT l) (fT m) a a' c c' (k1 w' _ _ hw').hr (k2 w' _ _ hw').hr h.hc h'.hc h.hc2 h'.hc2) ?_)
   refine sp ?_
   refine finIs (hL _ _) ?_
   rw[sameF_eq]
   simp only[alikeSP,h1,h2,Fld.k,Fld.wd,Fld.id,Fld.ix,Fld.sub,decide_true,Bool.true_and]
  ·refine sp ?_
   repeat' (first|((first|((first|refine gT rfl ?_ ?_|refine gF rfl ?_ ?_|refine cdD ?_ ?_)<;>intro h)|((first|refine gbT rfl ?_ ?_|refine gbF rfl ?_ ?_|refine cdB ?_ ?_)<;>intro h<;>(try subst h))|refine lOa Shp.eq rfl ?_|refine lAa Shp.eq rfl rfl ?_|refine newI (fun b hb hn=>?_)|refine sXb Siz.eq rfl rfl ?_)<;>simp (disch:=omega) only[push_cast,qE]))
   exact finIs (hL _ _) (by simp only[alikeSP,h2,Bool.and_false,Bool.false_and])
 ·refine sp ?_
  repeat' (first|((first|((first|refine gT rfl ?_ ?_|refine gF rfl ?_ ?_|refine cdD ?_ ?_)<;>intro h)|((first|refine gbT rfl ?_ ?_|refine gbF rfl ?_ ?_|refine cdB ?_ ?_)<;>intro h<;>(try subst h))|refine lOa Shp.eq rfl ?_|refine lAa Shp.eq rfl rfl ?_|refine newI (fun b hb hn=>?_)|refine sXb Siz.eq rfl rfl ?_)<;>simp (disch:=omega) only[push_cast,qE]))
  exact finIs (hL _ _) (by simp only[alikeSP,h1,Bool.false_and])
def goodK (q:Key):Prop:=q.nm.length≤48∧1≤q.k∧q.k≤20∧(q.k=14∨q.k=16→0≤q.wd∧q.wd < 100)∧(q.k=19→(0≤q.id∧q.id < 100)∧1≤q.ix∧q.ix≤13)
theorem textG_le (f:Fld):(textG f).length≤210+(textM 0 f.sub).length:=by
 have h1:=saysWord_le f.k.toNat
 have h2:=digs_le f.wd
 have h3:=digs_le f.id
 have h5:(saysWord f.ix.toNat).length≤100:=saysWord_le _
 have h4:(midT f.k f.wd f.id f.ix).length≤106:=by
  unfold midT
  split
  ·simp only[qA,qN,qO]; omega
  ·split
   ·simp only[qA,qN,qO]; omega
   ·simp
 rw[textG_eq,qA]
 split
 ·simp only[qA,qN,qO]; omega
 ·split
  ·simp only[qA,qN,qO]; omega
  ·simp only[qO]; omega
theorem text_bound:∀ (d:Nat) (l:List Fld),Dp d l→(∀ q∈keysL d l,goodK q)→okM l=true∧∀ i,(textM i l).length≤300 * (keysL d l).length
 | 0,l,h,_=>by cases h; exact ⟨by simp[okM],fun i=>by simp[textM]⟩
 | d+1,[],_,_=>⟨by simp[okM],fun i=>by simp[textM]⟩
 | d+1,f::l,h,hg=>by
  have hk:keysL (d+1) (f::l)=keyF f::(keysL d f.sub++keysL (d+1) l):=by rw[keysL,keysL,List.flatMap_cons]; rfl
  rw[hk] at hg
  obtain ⟨g1,g2,g3,g4,g5⟩:=hg _ (.head _)
  obtain ⟨a1,a2⟩:=text_bound d f.sub (h f (.head _)) fun q hq=>hg q (.tail _ (List.mem_append_left _ hq))
  obtain ⟨b1,b2⟩:=text_bound (d+1) l (fun x hx=>h x (.tail _ hx)) fun q hq=>hg q (.tail _ (List.mem_append_right _ hq))
  refine ⟨?_,fun i=>?_⟩
  ·rw[okM,b1,(okG_iff f).2 ⟨g2,g3,g4,g5,a1⟩]; rfl
  ·have c1:=a2 0
   have c2:=b2 (i+1)
   have c3:=textG_le f
   have g1':f.nm.length≤48:=g1
   have c4:(if i=0 then ([]:List UInt8) else [44,32]).length≤2:=by split<;>simp
   have c5:(if f.nl then ([63]:List UInt8) else []).length≤1:=by split<;>simp
   rw[hk,textM]
   simp only[qA,qN] at c4 c5 ⊢
   omega
theorem good_may {l:List Fld} {nt:List NoteT} (h:mayP l nt=true):∀ q∈keysL 64 l,goodK q:=by
 intro q hq
 rw[← keys_dp 64 l (may_dp h),← keys_nd 65 [] false l] at hq
 obtain ⟨x,hx,rfl⟩:=List.mem_map.1 hq
 obtain ⟨i,hi⟩:=List.mem_iff_getElem?.1 hx
 have h1:=(checkP_zero h).2.2.2 i
 unfold wrongAt at h1
 rw[hi] at h1
 simp only at h1
 unfold wrongN at h1
 by_cases q1:64 < x.path.length
 ·rw[if_pos q1] at h1; cases h1
 rw[if_neg q1] at h1
 by_cases q2:(256:Int)≤i
 ·rw[if_pos q2] at h1; cases h1
 rw[if_neg q2] at h1
 by_cases q3:¬ isName x.f.nm
 ·rw[if_pos q3] at h1; cases h1
 rw[if_neg q3] at h1
 by_cases q4:x.ah.any (fun g=>decide (g.nm=x.f.nm))=true
 ·rw[if_pos q4] at h1; cases h1
 rw[if_neg q4] at h1
 by_cases q5:¬ shapedF x.f
 ·rw[if_pos q5] at h1; cases h1
 have hn:x.f.nm.length≤48:=(Decidable.not_not.1 q3).2.2
 obtain ⟨⟨s1,s2⟩,s3,s4,_⟩:=Decidable.not_not.1 q5
 refine ⟨hn,s1,s2,fun hk=>?_,fun hk=>?_⟩
 ·have hk':x.f.k=14∨x.f.k=16:=hk
  show 0≤x.f.wd∧x.f.wd < 100
  unfold wideP widthK at s3
  rcases hk' with hk' | hk'
  ·rw[hk'] at s3; simp at s3; omega
  ·rw[hk'] at s3; simp at s3; omega
 ·have hk':x.f.k=19:=hk
  show (0≤x.f.id∧x.f.id < 100)∧1≤x.f.ix∧x.f.ix≤13
  unfold toldP at s4
  rw[if_pos hk'] at s4
  omega
theorem keys_few {l:List Fld} {nt:List NoteT} (h:mayP l nt=true):(keysL 64 l).length≤256:=by
 have h1:=few_nodes h
 have h2:=congrArg List.length (keys_nd 65 [] false l)
 rw[List.length_map] at h2
 rw[← keys_dp 64 l (may_dp h),← h2]
 exact h1
theorem text_may {l:List Fld} {nt:List NoteT} (h:mayP l nt=true):okM l=true∧(textM 0 l).length≤76800:=by
 obtain ⟨h1,h2⟩:=text_bound 64 l (may_dp h) (good_may h)
 have h3:=keys_few h
 have h4:=h2 0
 exact ⟨h1,by omega⟩
theorem notes_len (h:Bool):∀ (nt:List NoteT) (i:Nat),(∀ n∈nt,n.1.length≤256∧n.2.length≤256)→(notesM h i nt).length≤2100 * nt.length
 | [],i,_=>by simp[notesM]
 | n::nt,i,hn=>by
  have h1:=notes_len h nt (i+1) fun m hm=>hn m (.tail _ hm)
  obtain ⟨h2,h3⟩:=hn n (.head _)
  have e1:=escL_le n.1
  have e2:=escL_le n.2
  have q1:=quoteP_len n.1
  have q2:=quoteP_len n.2
  have hs:(sepN h i).length≤3:=by unfold sepN; split<;>(try split)<;>simp
  rw[notesM]
  unfold noteT
  simp only[qA,qN,qO]
  omega
theorem notes_may {l:List Fld} {nt:List NoteT} (h:mayP l nt=true):nt.length≤16∧∀ n∈nt,n.1.length≤256∧n.2.length≤256:=by
 obtain ⟨_,h2,h3,_⟩:=checkP_zero h
 refine ⟨h2,fun n hn=>?_⟩
 rw[List.findIdx?_eq_none_iff] at h3
 have:=h3 n hn
 simp only[longNote,Bool.or_eq_false_iff,decide_eq_false_iff_not] at this
 omega
theorem print_may {l:List Fld} {nt:List NoteT} (h:mayP l nt=true):okM l=true∧(outT l nt).length≤17592186044416∧∀ n∈nt,n.1.length≤1000∧n.2.length≤1000:=by
 obtain ⟨h1,h2⟩:=text_may h
 obtain ⟨h3,h4⟩:=notes_may h
 have h5:=notes_len (hasF l) nt 0 h4
 refine ⟨h1,by unfold outT; simp only[qA]; omega,fun n hn=>?_⟩
 have:=h4 n hn
 omega
end Go.Proofs.YtdmdgkpjjpijdaaGreatDoor
