/- YtdmdgkpjjpijdaaGreatDoor: walks, part 49: the text of a schema with its notes, of a field: the program's. -/
import Derived.Test.YtdmdgkpjjpijdaaGreatDoorW45
import Derived.Test.YtdmdgkpjjpijdaaGreatDoorW9
namespace Go.Proofs.YtdmdgkpjjpijdaaGreatDoor
open Go Go.K
open Nat renaming reduceEqDiff → qE
open List renaming mem_cons → qM, length_cons → qN, length_append → qA, mem_nil_iff → qI, length_nil → qO
set_option maxRecDepth 100000
set_option linter.unusedVariables false
set_option linter.unusedSimpArgs false
set_option maxHeartbeats 1000000
def noteT (n:NoteT):List UInt8:=quoteP n.1++([32]++quoteP n.2)
def sepN (h:Bool) (i:Nat):List UInt8:=if 0 < i then [44,32] else if h then [32,124,32] else [124,32]
def notesM (h:Bool):Nat→List NoteT→List UInt8
 | _,[]=>[]
 | i,n::l=>(sepN h i++noteT n)++notesM h (i+1) l
theorem notesM_append (h:Bool):∀ (l m:List NoteT) (i:Nat),notesM h i (l++m)=notesM h i l++notesM h (i+l.length) m
 | [],m,i=>by simp[notesM]
 | f::l,m,i=>by
  simp only[List.cons_append,notesM,notesM_append h l m (i+1),List.append_assoc,qN]
  rw[show i+1+l.length=i+(l.length+1) by omega]
theorem notesM_take (h:Bool) (l:List NoteT) (i:Nat) (n:NoteT) (hn:l[i]?=some n):notesM h 0 (l.take (i+1))=notesM h 0 (l.take i)++(sepN h i++noteT n):=by
 rw[List.take_add_one,hn,Option.toList_some,notesM_append]
 have:(l.take i).length=i:=by rw[List.length_take]; have:=(List.getElem?_eq_some_iff.1 hn).1; omega
 rw[this]
 simp[notesM]
theorem notesM_le (h:Bool) (l:List NoteT) (i:Nat):(notesM h 0 (l.take i)).length≤(notesM h 0 l).length:=by
 conv=>rhs; rw[← List.take_append_drop i l,notesM_append]
 simp
theorem quoteP_len (s:List UInt8):(quoteP s).length=(escL s).length+2:=by unfold quoteP; simp only[qA,qN,qO]; omega
def hasF (l:List Fld):Bool:=decide (0 < l.length)
def outT (l:List Fld) (nt:List NoteT):List UInt8:=textM 0 l++notesM (hasF l) 0 nt
def printG (l:List Fld) (nt:List NoteT):List UInt8×Int:=if mayP l nt then (outT l nt,0) else ([],5)
structure PnI (w0:World) (b1:Nat) (a:Option Addr) (l:List Fld) (c:Nat) (na:Option Addr) (nt:List NoteT) (nc:Nat) (i:Nat) (wb:World) (e:Env) (ds:List Deferred) (L:Own):Prop where
 hw:wb=w0
 hds:ds=[]
 o:RowO w0 5 1 L [(qb4 b1 a l.length c na nt.length nc)] (e 4) (outT l (nt.take i)).length (bytesV (outT l (nt.take i)))
 il:i≤nt.length
 h1:e 1=.pointer (some ⟨b1,0,none⟩)
 h14:e 14=.slice na nt.length nc
 h15:e 15=i64 nt.length
 h16:e 16=i64 i
structure PnJ (w0:World) (b1:Nat) (a:Option Addr) (l:List Fld) (c:Nat) (na:Option Addr) (nt:List NoteT) (nc:Nat) (n:NoteT) (b6:Nat) (i:Nat) (wb:World) (e:Env) (ds:List Deferred) (L:Own):Prop where
 hw:wb=w0
 hds:ds=[]
 o:RowO w0 5 1 L [(qb5 b6 n.1 n.2),(qb4 b1 a l.length c na nt.length nc)] (e 4) ((outT l (nt.take i)).length+(sepN (hasF l) i).length) (bytesV (outT l (nt.take i))++bytesV (sepN (hasF l) i))
 h1:e 1=.pointer (some ⟨b1,0,none⟩)
 h6:e 6=.pointer (some ⟨b6,0,none⟩)
 h14:e 14=.slice na nt.length nc
 h15:e 15=i64 nt.length
 h16:e 16=i64 i
theorem outT_take {l:List Fld} {nt:List NoteT} {i:Nat} {n:NoteT} (hn:nt[i]?=some n):outT l (nt.take (i+1))=outT l (nt.take i)++(sepN (hasF l) i++noteT n):=by
 unfold outT
 rw[notesM_take _ _ _ _ hn,List.append_assoc]
theorem outT_le (l:List Fld) (nt:List NoteT) (i:Nat):(outT l (nt.take i)).length≤(outT l nt).length:=by
 unfold outT
 have:=notesM_le (hasF l) nt i
 simp only[qA]; omega
theorem printG_walk (w:World) (hs:SaysAt w) (lo:Nat) (hlo:lo≤w.heap.size) (a:Option Addr) (l:List Fld) (c:Nat) (na:Option Addr) (nt:List NoteT) (nc:Nat) (hsc:SchAt w lo a l c na nt nc) (he:mayP l nt=true→okM l=true∧(outT l nt).length≤17592186044416∧∀ n∈nt,n.1.length≤1000∧n.2.length≤1000) :
 Calls Tryz.prog 18 #[schV a l c na nt nc] w (Rets w (Is (.tuple #[str (printG l nt).1,i64 (printG l nt).2]))):=by
 refine enterT (args:=[schV a l c na nt nc]) Tryz.func18 rfl Tryz.ntmps18 (congrArg Array.toList Tryz.results18) (by kernel_rfl) (by simp) (Sy.refl w) ?_
 simp (disch:=omega) only[push_cast,qE,schV]
 refine newI (fun b1 hb1 hn1=>?_)
 have hL:∀ p∈[(qb4 b1 a l.length c na nt.length nc)],w.heap.size≤p.1:=by
  intro p hp
  rw[List.mem_singleton.1 hp]; exact hb1
 refine sp ?_
 repeat' (first|((first|((first|refine gT rfl ?_ ?_|refine gF rfl ?_ ?_|refine cdD ?_ ?_)<;>intro h)|((first|refine gbT rfl ?_ ?_|refine gbF rfl ?_ ?_|refine cdB ?_ ?_)<;>intro h<;>(try subst h))|refine lOa Shp.eq rfl ?_|refine lAa Shp.eq rfl rfl ?_|refine newI (fun b hb hn=>?_)|refine sXb Siz.eq rfl rfl ?_)<;>simp (disch:=omega) only[push_cast,qE]))
 have h':=fun w' hw'=>hsc.sy hlo (w':=w') hw' (fun p hp=>Nat.le_trans hlo (hL p hp))
 refine callV en_56 (cIs (fun w' hw'=>may_walk w' (hs.mono hw' hL) lo (Nat.le_trans hlo hw'.size) a l c na nt nc (h' w' hw')) ?_)
 refine sp ?_
 rw[Vc]
 refine sp ?_
 refine cdB (fun hm=>?_) (fun hm=>?_)
 ·have hm':mayP l nt=false:=by simpa using hm
  refine sp ?_
  exact finIs hL (by simp[printG,hm'])
 have hm':mayP l nt=true:=by simpa using hm
 obtain ⟨he1,he2,he3⟩:=he hm'
 have hle0:(textM 0 l).length≤(outT l nt).length:=by unfold outT; simp
 have hnc:=hsc.hnc
 have hnc2:=hsc.hnc2
 refine sp ?_
 repeat' (first|((first|((first|refine gT rfl ?_ ?_|refine gF rfl ?_ ?_|refine cdD ?_ ?_)<;>intro h)|((first|refine gbT rfl ?_ ?_|refine gbF rfl ?_ ?_|refine cdB ?_ ?_)<;>intro h<;>(try subst h))|refine lOa Shp.eq rfl ?_|refine lAa Shp.eq rfl rfl ?_|refine newI (fun b hb hn=>?_)|refine sXb Siz.eq rfl rfl ?_)<;>simp (disch:=omega) only[push_cast,qE]))
 refine callV en_57 (callX_own (fun w' hw'=>(textsG_ok (SizeOf.sizeOf l+1)).1 w w' _ _ lo (.slice none 0 0) 0 [] l a c hw' hs hlo hL ⟨rfl,.inl ⟨rfl,rfl,rfl⟩⟩ hsc.hr hsc.hc hsc.hc2 he1 (by omega) (by omega)) (fun v2 L2 hro=>?_))
 refine sp ?_
 refine lOn Shp.eq (hro.mem (.head _)) rfl ?_
 refine sp ?_
 rw[Vb]
 refine sp ?_
 refine loopW (G:=Nat) (PnI w b1 a l c na nt nc) (fun i=>nt.length - i) 0 L2 (fun w hw=>hw) (by kernel_rfl) ⟨rfl,rfl,hro.cast (by simp[outT,notesM]) (by simp[outT,notesM]),by omega,rfl,rfl,rfl,rfl⟩ ?_
 clear hro
 rintro i wb e ds L ⟨rfl,rfl,hro,hil,h1,h14,h15,h16⟩
 obtain ⟨v0,h4⟩:∃ v0,e 4=v0:=⟨_,rfl⟩
 rw[h4] at hro
 have hLn:=hro.new hL
 simp (disch:=omega) only[push_cast,qE,h1,h4,h14,h15,h16]
 rw[Vc]
 simp (disch:=omega) only[push_cast,qE,h1,h4,h14,h15,h16]
 refine cdD (fun hlt=>?_) (fun hge=>?_)
 ·obtain ⟨n,hn⟩:∃ n,nt[i]?=some n:=⟨_,List.getElem?_eq_getElem (by omega)⟩
  rcases hsc.hn with rfl|⟨nb,noff,rfl,hnb,hnn⟩
  ·simp at hn
  obtain ⟨y1,y2,y3⟩:=hnn i n hn
  obtain ⟨z1,z2⟩:=he3 n (List.mem_of_getElem? hn)
  have htk:=outT_take (l:=l) hn
  have hle:=outT_le l nt (i+1)
  rw[htk] at hle
  simp only[qA] at hle
  have hqn:(noteT n).length=(quoteP n.1).length+(1+(quoteP n.2).length):=by unfold noteT; simp only[qA,qN,qO]
  have hq1:=quoteP_len n.1
  have hq2:=quoteP_len n.2
  have hes1:=escL_le n.1
  have hes2:=escL_le n.2
  simp (disch:=omega) only[push_cast,qE,h1,h4,h14,h15,h16]
  rw[Vb]
  simp (disch:=omega) only[push_cast,qE,h1,h4,h14,h15,h16]
  refine ldAggF Shp.eq y3 rfl (out_of (fun p hp=>Nat.lt_of_lt_of_le (Nat.lt_of_lt_of_le hnb hlo) (hLn p hp))) ?_
  simp (disch:=omega) only[push_cast,qE,h1,h4,h14,h15,h16]
  refine newI (fun b6 hb6 hn6=>?_)
  simp (disch:=omega) only[push_cast,qE,h1,h4,h14,h15,h16]
  repeat' (first|((first|((first|refine gT rfl ?_ ?_|refine gF rfl ?_ ?_|refine cdD ?_ ?_)<;>intro h)|((first|refine gbT rfl ?_ ?_|refine gbF rfl ?_ ?_|refine cdB ?_ ?_)<;>intro h<;>(try subst h))|refine lOa Shp.eq rfl ?_|refine lAa Shp.eq rfl rfl ?_|refine newI (fun b hb hn=>?_)|refine sXb Siz.eq rfl rfl ?_)<;>simp (disch:=omega) only[push_cast,qE,h1,h4,h14,h15,h16]))
  obtain ⟨L1,hro1,hs1⟩:=hro.over (qb5 b6 n.1 n.2)
  have hMM:∀ p∈[(qb5 b6 n.1 n.2),(b1,Obj.cells #[.slice a l.length c,.slice (some ⟨nb,noff,none⟩) nt.length nc] 27 (0,0))],wb.heap.size≤p.1:=fun p hp=>by
   simp only[qM,qI,or_false] at hp
   rcases hp with rfl|rfl
   ·exact hb6
   ·exact hb1
  refine cutV (PnJ wb b1 a l c (some ⟨nb,noff,none⟩) nt nc n b6 i) ?_ ?_
  ·have hsl:(sepN (hasF l) i).length≤3:=by unfold sepN; split<;>(try split)<;>simp
   rw[Vb]
   simp (disch:=omega) only[push_cast,qE,h1,h4,h14,h15,h16]
   rw[Vc]
   simp (disch:=omega) only[push_cast,qE,h1,h4,h14,h15,h16]
   refine cdD (fun hi0=>?_) (fun hi0=>?_)
   ·have hsep:sepN (hasF l) i=[44,32]:=by unfold sepN; rw[if_pos (by omega)]
    rw[hsep] at hsl hle
    simp (disch:=omega) only[push_cast,qE,h1,h4,h14,h15,h16]
    refine valX_weak hs1 (appendS [44,32] un_108 Tryz.underlying9 infoU8 hro1 (by omega) (fun v2 L2 hro2=>?_))
    simp (disch:=omega) only[push_cast,qE,h1,h4,h14,h15,h16]
    exact ⟨rfl,rfl,hro2.cast (by rw[hsep]) (by rw[hsep]),h1,rfl,h14,h15,h16⟩
   simp (disch:=omega) only[push_cast,qE,h1,h4,h14,h15,h16]
   refine lOn Shp.eq (.tail _ (hro.mem (.head _))) rfl ?_
   simp (disch:=omega) only[push_cast,qE,h1,h4,h14,h15,h16]
   rw[Vc]
   simp (disch:=omega) only[push_cast,qE,h1,h4,h14,h15,h16]
   refine cdD (fun hl0=>?_) (fun hl0=>?_)
   ·have hsep:sepN (hasF l) i=[32,124,32]:=by unfold sepN hasF; rw[if_neg (by omega),if_pos (decide_eq_true (by omega))]
    rw[hsep] at hsl hle
    simp (disch:=omega) only[push_cast,qE,h1,h4,h14,h15,h16]
    refine valX_weak hs1 (appendS [32,124,32] un_108 Tryz.underlying9 infoU8 hro1 (by omega) (fun v2 L2 hro2=>?_))
    simp (disch:=omega) only[push_cast,qE,h1,h4,h14,h15,h16]
    exact ⟨rfl,rfl,hro2.cast (by rw[hsep]) (by rw[hsep]),h1,rfl,h14,h15,h16⟩
   ·have hsep:sepN (hasF l) i=[124,32]:=by unfold sepN hasF; rw[if_neg (by omega),if_neg (by simp only[decide_eq_true_eq]; omega)]
    rw[hsep] at hsl hle
    simp (disch:=omega) only[push_cast,qE,h1,h4,h14,h15,h16]
    refine valX_weak hs1 (appendS [124,32] un_108 Tryz.underlying9 infoU8 hro1 (by omega) (fun v2 L2 hro2=>?_))
    simp (disch:=omega) only[push_cast,qE,h1,h4,h14,h15,h16]
    exact ⟨rfl,rfl,hro2.cast (by rw[hsep]) (by rw[hsep]),h1,rfl,h14,h15,h16⟩
  clear hro1 hs1 hro h4 h1 h14 h15 h16
  rintro wb e ds L ⟨rfl,rfl,hro,h1,h6,h14,h15,h16⟩
  obtain ⟨v0,h4⟩:∃ v0,e 4=v0:=⟨_,rfl⟩
  rw[h4] at hro
  have hst:∀ L',(∀ p∈L',wb.heap.size≤p.1)→(qb5 b6 n.1 n.2)∈L'→Stab wb L' [(qb5 b6 n.1 n.2)]:=fun L' h1 h2=>Stab.of (List.singleton_sublist.2 h2) h1
  simp (disch:=omega) only[push_cast,qE,h1,h4,h6,h14,h15,h16]
  refine freeTs [0,1,2,6,7] [3,4,5,8,9] [[3,4,5,8,9],[4,3,5,8,9]] [(qb5 b6 n.1 n.2)] (by kernel_rfl) mixed (by kernel_rfl) (by kernel_rfl) (fun h=>by cases h) (hst _ (hro.new hMM) (hro.mem (.head _))) ?_
  simp (disch:=omega) only[push_cast,qE,h1,h4,h6,h14,h15,h16]
  refine lOn Shp.eq mem0 rfl ?_
  simp (disch:=omega) only[push_cast,qE,h1,h4,h6,h14,h15,h16]
  refine lOn Shp.eq mem0 rfl ?_
  simp (disch:=omega) only[push_cast,qE,h1,h4,h6,h14,h15,h16]
  have hM9f:∀ b9:Nat,wb.heap.size≤b9→∀ p∈(b9,Obj.cells (bytesV [32]).toArray 5 (0,0))::[(qb5 b6 n.1 n.2),(b1,Obj.cells #[.slice a l.length c,.slice (some ⟨nb,noff,none⟩) nt.length nc] 27 (0,0))],wb.heap.size≤p.1:=fun b9 hb9 p hp=>by
   rcases List.mem_cons.1 hp with rfl|hp
   ·exact hb9
   ·exact hMM p hp
  intro t ht
  simp only[qM,qI,or_false] at ht
  rcases ht with rfl|rfl
  ·simp (disch:=omega) only[push_cast,qE,h1,h4,h6,h14,h15,h16]
   refine callV en_58 (callX_own (fun w' hw'=>quoted_walk wb w' L [(qb5 b6 n.1 n.2),(b1,Obj.cells #[.slice a l.length c,.slice (some ⟨nb,noff,none⟩) nt.length nc] 27 (0,0))] v0 _ _ n.1 hw' hMM hro (by omega)) (fun v3 L3 hro3=>?_))
   simp (disch:=omega) only[push_cast,qE,h1,h4,h6,h14,h15,h16]
   refine ⟨hst _ (hro3.new hMM) (hro3.mem (.head _)),bs_108_1 (newI fun b9 hb9 hn9=>?_)⟩
   have hM9:=hM9f b9 hb9
   simp (disch:=omega) only[push_cast,qE,h1,h4,h6,h14,h15,h16]
   refine ⟨hst _ ((nC hb9 (hro3.new hMM))) (.tail _ (hro3.mem (.head _))),appendB [32] un_108 infoU8 hro3 hb9 (by simp only[qN,qO]; omega) (fun v4 L4 hro4=>?_)⟩
   simp (disch:=omega) only[push_cast,qE,h1,h4,h6,h14,h15,h16]
   refine ⟨hst _ (hro4.new hM9) (hro4.mem (.tail _ (.head _))),callV en_58 (callX_own (fun w' hw'=>quoted_walk wb w' L4 _ v4 _ _ n.2 hw' hM9 hro4 (by simp only[qN,qO]; omega)) (fun v5 L5 hro6=>?_))⟩
   simp (disch:=omega) only[push_cast,qE,h1,h4,h6,h14,h15,h16]
   obtain ⟨L6,hro7,hs6⟩:=RowO.shrink [(b9,Obj.cells (bytesV [32]).toArray 5 (0,0)),(qb5 b6 n.1 n.2)] hro6 (fun p hp=>by
    simp only[qM,qI,or_false] at hp
    rcases hp with rfl|rfl
    ·exact hb9
    ·exact hb6)
   refine ⟨hst _ (hro6.new hM9) (hro6.mem (.tail _ (.head _))),hst _ (hro6.new hM9) (hro6.mem (.tail _ (.head _))),i+1,L6,hs6,⟨rfl,rfl,hro7.cast ?_ ?_,by omega,h1,h14,h15,uu⟩,by omega⟩
   ·rw[htk]; unfold noteT; simp only[qA,qN,qO]; omega
   ·rw[htk]; unfold noteT; simp only[bytesV_append,List.append_assoc]
  ·simp (disch:=omega) only[push_cast,qE,h1,h4,h6,h14,h15,h16]
   refine bs_108_1 (newI fun b9 hb9 hn9=>?_)
   have hM9:=hM9f b9 hb9
   obtain ⟨L9,hro9,hs9⟩:=hro.over (b9,Obj.cells (bytesV [32]).toArray 5 (0,0))
   simp (disch:=omega) only[push_cast,qE,h1,h4,h6,h14,h15,h16]
   refine ⟨hst _ ((nC hb9 (hro.new hMM))) (.tail _ (hro.mem (.head _))),callV en_58 (callX_weak hs9 (callX_own (fun w' hw'=>quoted_walk wb w' L9 _ v0 _ _ n.1 hw' hM9 hro9 (by omega)) (fun v3 L3 hro3=>?_)))⟩
   simp (disch:=omega) only[push_cast,qE,h1,h4,h6,h14,h15,h16]
   refine ⟨hst _ (hro3.new hM9) (hro3.mem (.tail _ (.head _))),appendI un_108 infoU8 rfl (m:=1) (news:=bytesV [32]) hro3 rfl (CanRead.of_own (e:=5) (b:=b9) (cs:=bytesV [32]) (n:=1) (hro3.mem (.head _)) rfl rfl) (bytesV_one _) (by simp only[maxLen]; omega) (by omega) (fun v4 L4 hro4 _=>?_)⟩
   simp (disch:=omega) only[push_cast,qE,h1,h4,h6,h14,h15,h16]
   refine ⟨hst _ (hro4.new hM9) (hro4.mem (.tail _ (.head _))),callV en_58 (callX_own (fun w' hw'=>quoted_walk wb w' L4 _ v4 _ _ n.2 hw' hM9 hro4 (by omega)) (fun v5 L5 hro6=>?_))⟩
   simp (disch:=omega) only[push_cast,qE,h1,h4,h6,h14,h15,h16]
   obtain ⟨L6,hro7,hs6⟩:=RowO.shrink [(b9,Obj.cells (bytesV [32]).toArray 5 (0,0)),(qb5 b6 n.1 n.2)] hro6 (fun p hp=>by
    simp only[qM,qI,or_false] at hp
    rcases hp with rfl|rfl
    ·exact hb9
    ·exact hb6)
   refine ⟨hst _ (hro6.new hM9) (hro6.mem (.tail _ (.head _))),hst _ (hro6.new hM9) (hro6.mem (.tail _ (.head _))),i+1,L6,hs6,⟨rfl,rfl,hro7.cast ?_ ?_,by omega,h1,h14,h15,uu⟩,by omega⟩
   ·rw[htk]; unfold noteT; simp only[qA,qN,qO]; omega
   ·rw[htk]; unfold noteT; simp only[bytesV_append,List.append_assoc]
 ·obtain rfl:i=nt.length:=by omega
  rw[List.take_length] at hro
  simp (disch:=omega) only[push_cast,qE,h1,h4,h14,h15,h16]
  refine convS un_108 Tryz.underlying5 Tryz.underlying9 (s:=outT l nt) hro ?_
  simp (disch:=omega) only[push_cast,qE,h1,h4,h14,h15,h16]
  exact finIs (hro.new hL) (by simp[printG,hm'])
end Go.Proofs.YtdmdgkpjjpijdaaGreatDoor
