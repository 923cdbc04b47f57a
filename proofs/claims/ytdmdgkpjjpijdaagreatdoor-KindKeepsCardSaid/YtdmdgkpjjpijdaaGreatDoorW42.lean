/- YtdmdgkpjjpijdaaGreatDoor: walks, part 42: the text of a type, of all kinds. -/
import Derived.Test.YtdmdgkpjjpijdaaGreatDoorW41
namespace Go.Proofs.YtdmdgkpjjpijdaaGreatDoor
open Go Go.K
open Nat renaming reduceEqDiff → qE
open List renaming mem_cons → qM, length_cons → qN, length_append → qA, mem_nil_iff → qI, length_nil → qO
set_option maxRecDepth 100000
set_option linter.unusedVariables false
set_option linter.unusedSimpArgs false
set_option maxHeartbeats 4000000
abbrev openK (k:Int):Prop:=k=15∨k=16∨k=17∨k=18∨k=19∨k=20
def midT (k wd id ix:Int):List UInt8:=if k=16 then digs wd++[44,32] else if k=19 then digs id++([44,32]++(saysWord ix.toNat++[44,32])) else []
mutual
def textG:Fld→List UInt8
 | .mk _ _ k wd id ix sub=>saysWord k.toNat++if k=14 then [40]++(digs wd++[41]) else if openK k then [40]++(midT k wd id ix++(textM 0 sub++[41])) else []
def textM:Nat→List Fld→List UInt8
 | _,[]=>[]
 | i,f::l=>((if i=0 then [] else [44,32])++(f.nm++(32::(textG f++if f.nl then [63] else []))))++textM (i+1) l
end
mutual
def okG:Fld→Bool
 | .mk _ _ k wd id ix sub=>decide (1≤k) && decide (k≤20) && decide (k=14∨k=16→0≤wd∧wd < 100) && decide (k=19→(0≤id∧id < 100)∧1≤ix∧ix≤13) && okM sub
def okM:List Fld→Bool
 | []=>true
 | f::l=>okG f && okM l
end
theorem textG_eq (f:Fld):textG f=saysWord f.k.toNat++if f.k=14 then [40]++(digs f.wd++[41]) else if openK f.k then [40]++(midT f.k f.wd f.id f.ix++(textM 0 f.sub++[41])) else []:=by cases f; simp only[textG]; rfl
theorem okG_iff (f:Fld):okG f=true↔1≤f.k∧f.k≤20∧(f.k=14∨f.k=16→0≤f.wd∧f.wd < 100)∧(f.k=19→(0≤f.id∧f.id < 100)∧1≤f.ix∧f.ix≤13)∧okM f.sub=true:=by
 cases f
 simp only[okG,Bool.and_eq_true,decide_eq_true_eq,Fld.k,Fld.wd,Fld.id,Fld.ix,Fld.sub,and_assoc]
theorem okM_get:∀ {l:List Fld} {i:Nat} {f:Fld},okM l=true→l[i]?=some f→okG f=true
 | [],i,f,_,h=>by simp at h
 | g::l,0,f,h1,h2=>by simp only[okM,Bool.and_eq_true] at h1; simp at h2; rw[← h2]; exact h1.1
 | g::l,i+1,f,h1,h2=>by simp only[okM,Bool.and_eq_true] at h1; exact okM_get h1.2 (un h2)
theorem textM_append:∀ (l m:List Fld) (i:Nat),textM i (l++m)=textM i l++textM (i+l.length) m
 | [],m,i=>by simp[textM]
 | f::l,m,i=>by
  simp only[List.cons_append,textM,textM_append l m (i+1),List.append_assoc,qN]
  rw[show i+1+l.length=i+(l.length+1) by omega]
theorem textM_take (l:List Fld) (i:Nat) (f:Fld) (hf:l[i]?=some f):textM 0 (l.take (i+1))=textM 0 (l.take i)++(sepT i++(f.nm++(32::(textG f++if f.nl then [63] else [])))):=by
 rw[List.take_add_one,hf,Option.toList_some,textM_append]
 have:(l.take i).length=i:=by rw[List.length_take]; have:=(List.getElem?_eq_some_iff.1 hf).1; omega
 rw[this]
 simp[textM,sepT]
theorem textM_le (l:List Fld) (i:Nat):(textM 0 (l.take i)).length≤(textM 0 l).length:=by
 conv=>rhs; rw[← List.take_append_drop i l,textM_append]
 simp
theorem digs_le (n:Int):(digs n).length≤2:=by unfold digs; split<;>simp
theorem appendIntZ_walk (wb w:World) (L M:Own) (v:Value) (k:Nat) (xs:List Value) (n:Int) (hw:Sy wb L w) (hM:∀ p∈M,wb.heap.size≤p.1) (hro:RowO wb 5 1 L M v k xs) (h0:0≤n) (hn:n < 100) (hk:k+2≤70368744177664) :
 Calls Tryz.prog 117 #[v,i64 n,i64 10] w (fun e w'=>∃ v' L',e=.returned v'∧Sy wb L' w'∧RowO wb 5 1 L' M v' (k+(digs n).length) (xs++bytesV (digs n))):=by
 obtain ⟨m,rfl⟩:=Int.eq_ofNat_of_zero_le h0
 exact appendInt_walk wb w L M v k xs m hw hM hro (by omega) hk
def FieldsG (n:Nat):Prop:=∀ (wb w:World) (L M:Own) (lo:Nat) (v:Value) (k:Nat) (xs:List Value) (l:List Fld) (a:Option Addr) (c:Nat),Sy wb L w→SaysAt wb→lo≤wb.heap.size→(∀ p∈M,wb.heap.size≤p.1)→RowO wb 5 1 L M v k xs→Rd wb lo a l→l.length≤c→c≤9223372036854775807→okM l=true→SizeOf.sizeOf l < n→k+(textM 0 l).length≤35184372088832 →
 Calls Tryz.prog 57 #[v,.slice a l.length c] w (fun e w'=>∃ v' L',e=.returned v'∧Sy wb L' w'∧RowO wb 5 1 L' M v' (k+(textM 0 l).length) (xs++bytesV (textM 0 l)))
def TypedG (n:Nat):Prop:=∀ (wb w:World) (L M:Own) (lo:Nat) (v:Value) (k:Nat) (xs:List Value) (f:Fld) (a:Option Addr) (c:Nat),Sy wb L w→SaysAt wb→lo≤wb.heap.size→(∀ p∈M,wb.heap.size≤p.1)→RowO wb 5 1 L M v k xs→Rd wb lo a f.sub→f.sub.length≤c→c≤9223372036854775807→okG f=true→SizeOf.sizeOf f < n→k+(textG f).length≤35184372088832 →
 Calls Tryz.prog 90 #[v,.agg (f.tcells a c).toArray] w (fun e w'=>∃ v' L',e=.returned v'∧Sy wb L' w'∧RowO wb 5 1 L' M v' (k+(textG f).length) (xs++bytesV (textG f)))
structure OpenI (w0:World) (M:Own) (f:Fld) (a:Option Addr) (c b3 k:Nat) (xs:List Value) (P:List UInt8) (wb:World) (e:Env) (ds:List Deferred) (L:Own):Prop where
 hw:wb=w0
 hds:ds=[]
 o:∃ A v,(∀ p∈A,w0.heap.size≤p.1)∧(qb2 b3 f a c)∈A∧e 0=v∧RowO w0 5 1 L (A++M) v (k+P.length) (xs++bytesV P)
 h3:e 3=.pointer (some ⟨b3,0,none⟩)
def FxP (w:World) (R:Own) (k:Nat) (xs:List Value) (wd:Int) (v17 v19 v22 v24 v4:Value):Nat→Prop
 | 0=>RowO w 5 1 R [] v17 k xs
 | 1=>RowO w 5 1 R [] v19 (k+1) (xs++bytesV [40])
 | 2=>RowO w 5 1 R [] v22 (k+1+(digs wd).length) (xs++bytesV [40]++bytesV (digs wd))
 | 3=>RowO w 5 1 R [] v24 (k+1+(digs wd).length+1) (xs++bytesV [40]++bytesV (digs wd)++bytesV [41])
 | 4=>RowO w 5 1 R [] v4 (k+1+(digs wd).length+1) (xs++bytesV [40]++bytesV (digs wd)++bytesV [41])
 | _=>False
structure FxI (w:World) (M:Own) (k:Nat) (xs:List Value) (wd:Int) (D:Nat→Bool) (e:Env) (ds:List Deferred) (L:Own):Prop where
 hds:ds=[]
 h21:e 21=i64 wd
 o:∃ R X1 X6,L=R++(X1++(X6++M))∧(∀ p∈R,w.heap.size≤p.1) ∧
  ((D 1=false∧X1=[])∨(D 1=true∧∃ b,w.heap.size≤b∧X1=[(b,Obj.cells (bytesV [40]).toArray 5 (0,0))]∧e 18=.slice (some ⟨b,0,none⟩) 1 1)) ∧
  ((D 6=false∧X6=[])∨(D 6=true∧∃ b,w.heap.size≤b∧X6=[(b,Obj.cells (bytesV [41]).toArray 5 (0,0))]∧e 23=.slice (some ⟨b,0,none⟩) 1 1)) ∧
  ∃ ph,D 2=decide (1≤ph)∧D 5=decide (2≤ph)∧D 7=decide (3≤ph)∧D 8=decide (4≤ph)∧FxP w R k xs wd (e 17) (e 19) (e 22) (e 24) (e 4) ph
theorem FxI.new {w:World} {M:Own} {k:Nat} {xs:List Value} {wd:Int} {D:Nat→Bool} {e:Env} {ds:List Deferred} {L:Own} (h:FxI w M k xs wd D e ds L) (hM:∀ p∈M,w.heap.size≤p.1):(∀ p∈L,w.heap.size≤p.1)∧∀ p∈M,p∈L:=by
 obtain ⟨R,X1,X6,rfl,hR,h1,h6,_⟩:=h.o
 refine ⟨fun p hp=>?_,fun p hp=>by simp[hp]⟩
 rcases List.mem_append.1 hp with hp|hp
 ·exact hR p hp
 rcases List.mem_append.1 hp with hp|hp
 ·rcases h1 with ⟨_,rfl⟩|⟨_,b,hb,rfl,_⟩
  ·cases hp
  ·rw[List.mem_singleton.1 hp]; exact hb
 rcases List.mem_append.1 hp with hp|hp
 ·rcases h6 with ⟨_,rfl⟩|⟨_,b,hb,rfl,_⟩
  ·cases hp
  ·rw[List.mem_singleton.1 hp]; exact hb
 ·exact hM p hp
theorem saysWord_le (n:Nat):(saysWord n).length≤100:=by
 rcases Nat.lt_or_ge n 21 with h|h
 ·have:∀ m:Fin 21,(saysWord m).length≤100:=by decide +kernel
  exact this ⟨n,h⟩
 ·unfold saysWord
  rw[List.getD_eq_getElem?_getD,List.getElem?_eq_none (un h)]
  simp
theorem typedG_step (n:Nat) (hF:FieldsG n):TypedG (n+1):=by
 intro wb w L M lo v k xs f a c hw hs hlo hM hro hr hc hc2 he hsz hlen
 obtain ⟨k1,k2,kw,kd,hel⟩:=(okG_iff f).1 he
 refine enterB (args:=[v,.agg (f.tcells a c).toArray]) Tryz.func90 rfl Tryz.ntmps90 (congrArg Array.toList Tryz.results90) (by kernel_rfl) (by simp) hw ?_
 simp (disch:=omega) only[push_cast,qE,Fld.tcells]
 refine newI (fun b3 hb3 hn3=>?_)
 refine sp ?_
 repeat' (first|((first|((first|refine gT rfl ?_ ?_|refine gF rfl ?_ ?_|refine cdD ?_ ?_)<;>intro h)|((first|refine gbT rfl ?_ ?_|refine gbF rfl ?_ ?_|refine cdB ?_ ?_)<;>intro h<;>(try subst h))|refine lOa Shp.eq rfl ?_|refine lAa Shp.eq rfl rfl ?_|refine newI (fun b hb hn=>?_)|refine sXb Siz.eq rfl rfl ?_)<;>simp (disch:=omega) only[push_cast,qE]))
 have hL3:∀ x,∀ p∈((b3,(x:Obj))::L),wb.heap.size≤p.1:=fun x p hp=>by
  rcases List.mem_cons.1 hp with rfl|hp
  ·exact hb3
  ·exact hro.new hM p hp
 refine ldF sh_9 ((hs.2 f.k.toNat (by omega)).sub 0 [str (saysWord f.k.toNat)] rfl) (out_of (fun p hp=>Nat.lt_of_lt_of_le hs.1 (hL3 _ p hp))) ?_
 refine sp ?_
 rw[textG_eq,qA] at hlen
 obtain ⟨L1,hro1,hs1⟩:=hro.over (qb2 b3 f a c)
 refine valX_weak hs1 (appendS (saysWord f.k.toNat) un_108 Tryz.underlying9 infoU8 hro1 (by omega) (fun v2 L2 hro2=>?_))
 refine sp ?_
 have hM3:∀ p∈((qb2 b3 f a c)::M),wb.heap.size≤p.1:=(nC hb3 hM)
 have hL2:=hro2.new hM3
 have hb3L:(qb2 b3 f a c)∈L2:=hro2.mem (.head _)
 refine lOn sh_3 hb3L rfl ?_
 refine sp ?_
 have hstab:∀ L',(∀ p∈L',wb.heap.size≤p.1)→(qb2 b3 f a c)∈L'→Stab wb L' [(qb2 b3 f a c)]:=fun L' h1 h2=>Stab.of (List.singleton_sublist.2 h2) h1
 have hsub:(saysWord f.k.toNat).length≤100:=saysWord_le _
 by_cases hk14:f.k=14
 ·have d14:decide (f.k=14)=true:=decide_eq_true hk14
  obtain ⟨w1,w2⟩:=kw (.inl hk14)
  rw[if_pos hk14] at hlen
  have hdl:=digs_le f.wd
  simp only[qA,qN,qO] at hlen
  rw[Vb]
  simp (disch:=omega) only[push_cast,qE,d14]
  rw[Vc]
  simp (disch:=omega) only[push_cast,qE,d14]
  obtain ⟨R0,rfl,hR0⟩:=RowO.unframe hro2
  refine freeIT [0,3,4] [1,2,5,6,7,8] [(1,[]),(2,[1]),(5,[2]),(6,[]),(7,[5,6]),(8,[7])] [(qb2 b3 f a c)] (FxI wb ((qb2 b3 f a c)::M) (k+(saysWord f.k.toNat).length) (xs++bytesV (saysWord f.k.toNat)) f.wd) (by kernel_rfl) mixed (by kernel_rfl) (by kernel_rfl) (fun D e ds L hI=>hstab _ (hI.new hM3).1 ((hI.new hM3).2 _ (.head _))) ?_ ?_ (hstab _ hL2 hb3L) ?_
  ·intro p hp D e ds L hD hdep hI
   have hLn:=hI.new hM3
   obtain ⟨hds,h21,R,X1,X6,rfl,hR,h1,h6,ph,d2,d5,d7,d8,hph⟩:=hI
   subst hds
   simp only[qM,qI,or_false] at hp
   have hrest:∀ p∈X1++(X6++((qb2 b3 f a c)::M)),wb.heap.size≤p.1:=fun p hp=>hLn.1 p (List.mem_append_right _ hp)
   rcases hp with rfl|rfl|rfl|rfl|rfl|rfl
   all_goals simp only[qM,qI,or_false,forall_eq_or_imp,forall_eq,false_implies,implies_true] at hD hdep
   ·obtain rfl:X1=[]:=by
     rcases h1 with ⟨_,h⟩|⟨h,_⟩
     ·exact h
     ·rw[hD] at h; cases h
    refine sp ?_
    refine bs_108_1 (newI fun b hb hn=>?_)
    refine sp ?_
    exact ⟨R++([(b,Obj.cells (bytesV [40]).toArray 5 (0,0))]++(X6++((qb2 b3 f a c)::M))),fun w hw=>hw.perm List.perm_middle.symm,rfl,h21,R,[(b,Obj.cells (bytesV [40]).toArray 5 (0,0))],X6,rfl,hR,.inr ⟨by simp,b,hb,rfl,rfl⟩,(us h6),ph,(by simp[d2]),(by simp[d5]),(by simp[d7]),(by simp[d8]),(us hph)⟩
   ·obtain rfl:ph=0:=by rw[d2] at hD; simp at hD; omega
    obtain ⟨b,hb,rfl,h18⟩:∃ b,wb.heap.size≤b∧X1=[(b,Obj.cells (bytesV [40]).toArray 5 (0,0))]∧e 18=.slice (some ⟨b,0,none⟩) 1 1:=by
     rcases h1 with ⟨h,_⟩|⟨_,h⟩
     ·rw[hdep] at h; cases h
     ·exact h
    simp (disch:=omega) only[push_cast,qE,h18,h21]
    refine appendI un_108 infoU8 rfl (m:=1) (news:=bytesV [40]) (RowO.frame hph) rfl (CanRead.of_own (e:=5) (b:=b) (cs:=bytesV [40]) (n:=1) (by simp) rfl rfl) (bytesV_one _) (by simp only[maxLen]; omega) (by omega) (fun v' L' hro' _=>?_)
    obtain ⟨R',rfl,hR'⟩:=RowO.unframe hro'
    refine sp ?_
    exact ⟨_,fun w hw=>hw,rfl,h21,R',_,X6,rfl,hR'.new (by simp),.inr ⟨by simp[hdep],b,hb,rfl,(by simp[upd,h18])⟩,(us h6),1,(by simp[d2,d5,d7,d8]),(by simp[d2,d5,d7,d8]),(by simp[d2,d5,d7,d8]),(by simp[d2,d5,d7,d8]),hR'⟩
   ·obtain rfl:ph=1:=by rw[d5] at hD; rw[d2] at hdep; simp at hD hdep; omega
    simp (disch:=omega) only[push_cast,qE,h21]
    refine callV en_117 (callX_own (fun w' hw'=>appendIntZ_walk wb w' _ _ (e 19) _ _ f.wd hw' hrest (RowO.frame hph) w1 w2 (by omega)) (fun v4 L4 hro4=>?_))
    obtain ⟨R',rfl,hR'⟩:=RowO.unframe hro4
    refine sp ?_
    exact ⟨_,fun w hw=>hw,rfl,h21,R',X1,X6,rfl,hR'.new (by simp),(us h1),(us h6),2,(by simp[d2,d5,d7,d8]),(by simp[d2,d5,d7,d8]),(by simp[d2,d5,d7,d8]),(by simp[d2,d5,d7,d8]),hR'⟩
   ·obtain rfl:X6=[]:=by
     rcases h6 with ⟨_,h⟩|⟨h,_⟩
     ·exact h
     ·rw[hD] at h; cases h
    refine sp ?_
    refine bs_108_1 (newI fun b hb hn=>?_)
    refine sp ?_
    exact ⟨R++(X1++([(b,Obj.cells (bytesV [41]).toArray 5 (0,0))]++((qb2 b3 f a c)::M))),fun w hw=>hw.perm (by
     have:=(List.perm_middle (l₁:=R++X1) (a:=((b,Obj.cells (bytesV [41]).toArray 5 (0,0)):Nat×Obj)) (l₂:=(qb2 b3 f a c)::M)).symm
     have t2:((b,Obj.cells (bytesV [41]).toArray 5 (0,0))::(R++(X1++((qb2 b3 f a c)::M)))).Perm (R++(X1++((b,Obj.cells (bytesV [41]).toArray 5 (0,0))::((qb2 b3 f a c)::M)))):=by simpa only[List.append_assoc] using this
     exact t2),rfl,h21,R,X1,[(b,Obj.cells (bytesV [41]).toArray 5 (0,0))],rfl,hR,(us h1),.inr ⟨by simp,b,hb,rfl,rfl⟩,ph,(by simp[d2]),(by simp[d5]),(by simp[d7]),(by simp[d8]),(us hph)⟩
   ·obtain ⟨hdep5,hdep6⟩:=hdep
    obtain rfl:ph=2:=by rw[d7] at hD; rw[d5] at hdep5; simp at hD hdep5; omega
    obtain ⟨b,hb,rfl,h23⟩:∃ b,wb.heap.size≤b∧X6=[(b,Obj.cells (bytesV [41]).toArray 5 (0,0))]∧e 23=.slice (some ⟨b,0,none⟩) 1 1:=by
     rcases h6 with ⟨h,_⟩|⟨_,h⟩
     ·rw[hdep6] at h; cases h
     ·exact h
    simp (disch:=omega) only[push_cast,qE,h23,h21]
    refine appendI un_108 infoU8 rfl (m:=1) (news:=bytesV [41]) (RowO.frame hph) rfl (CanRead.of_own (e:=5) (b:=b) (cs:=bytesV [41]) (n:=1) (by simp) rfl rfl) (bytesV_one _) (by simp only[maxLen]; omega) (by omega) (fun v' L' hro' _=>?_)
    obtain ⟨R',rfl,hR'⟩:=RowO.unframe hro'
    refine sp ?_
    exact ⟨_,fun w hw=>hw,rfl,h21,R',X1,_,rfl,hR'.new (by simp),(us h1),.inr ⟨by simp[hdep6],b,hb,rfl,(by simp[upd,h23])⟩,3,(by simp[d2,d5,d7,d8]),(by simp[d2,d5,d7,d8]),(by simp[d2,d5,d7,d8]),(by simp[d2,d5,d7,d8]),hR'⟩
   ·obtain rfl:ph=3:=by rw[d8] at hD; rw[d7] at hdep; simp at hD hdep; omega
    refine sp ?_
    exact ⟨_,fun w hw=>hw,rfl,h21,R,X1,X6,rfl,hR,(us h1),(us h6),4,(by simp[d2,d5,d7,d8]),(by simp[d2,d5,d7,d8]),(by simp[d2,d5,d7,d8]),(by simp[d2,d5,d7,d8]),hph⟩
  ·intro D e ds L hall hI
   have hLn:=hI.new hM3
   obtain ⟨hds,h21,R,X1,X6,rfl,hR,h1,h6,ph,d2,d5,d7,d8,hph⟩:=hI
   subst hds
   have hD8:=hall 8 (by simp)
   rw[d8] at hD8
   have hph4:4≤ph:=by simpa using hD8
   obtain rfl:ph=4:=by
    match ph,hph,hph4 with
    | 4,_,_=>rfl
    | n+5,h,_=>exact h.elim
   have hro5:RowO wb 5 1 (R++(X1++(X6++((qb2 b3 f a c)::M)))) ((X1++(X6++[(qb2 b3 f a c)]))++M) (e 4) (k+(saysWord f.k.toNat).length+1+(digs f.wd).length+1) (xs++bytesV (saysWord f.k.toNat)++bytesV [40]++bytesV (digs f.wd)++bytesV [41]):=by
    have h:=RowO.frame (M:=X1++(X6++((qb2 b3 f a c)::M))) hph
    simpa only[List.append_assoc,List.singleton_append] using h
   obtain ⟨L6,hro6,hs6⟩:=RowO.shrink (X1++(X6++[(qb2 b3 f a c)])) hro5 (fun p hp=>hLn.1 p (by
    simp only[List.mem_append,qM,qI,or_false] at hp ⊢
    rcases hp with hp|hp|hp
    ·exact .inr (.inl hp)
    ·exact .inr (.inr (.inl hp))
    ·exact .inr (.inr (.inr (.inl hp)))))
   refine sp ?_
   have htx:textG f=saysWord f.k.toNat++([40]++(digs f.wd++[41])):=by rw[textG_eq,if_pos hk14]
   rw[htx]
   exact fun w' hw'=>⟨_,L6,rfl,hs6 _ hw',hro6.cast (by simp only[qA,qN,qO]; omega) (by simp only[bytesV_append,List.append_assoc])⟩
  ·simp (disch:=omega) only[push_cast,qE,d14]
   refine lOn Shp.eq mem0 rfl ?_
   simp (disch:=omega) only[push_cast,qE,d14]
   exact ⟨rfl,rfl,R0,[],[],rfl,hR0.new (by simp),.inl ⟨rfl,rfl⟩,.inl ⟨rfl,rfl⟩,0,rfl,rfl,rfl,rfl,hR0⟩
 ·have d14:decide (f.k=14)=false:=decide_eq_false hk14
  rw[if_neg hk14] at hlen
  by_cases hop:openK f.k
  ·rw[if_pos hop] at hlen
   simp only[qA,qN,qO] at hlen
   have hszs:SizeOf.sizeOf f.sub < n:=by
    have:SizeOf.sizeOf f.sub < SizeOf.sizeOf f:=by cases f; simp only[Fld.sub,Fld.mk.sizeOf_spec]; omega
    omega
   obtain ⟨P,hPd⟩:∃ P,P=saysWord f.k.toNat++([40]++midT f.k f.wd f.id f.ix):=⟨_,rfl⟩
   have hPl:=congrArg List.length hPd
   simp only[qA,qN,qO] at hPl
   refine cutV (OpenI wb M f a c b3 k xs P) ?_ ?_
   ·rw[Vb]
    simp (disch:=omega) only[push_cast,qE,d14]
    rw[Vc]
    simp (disch:=omega) only[push_cast,qE,d14]
    by_cases h16:f.k=16
    ·have d16:decide (f.k=16)=true:=decide_eq_true h16
     obtain ⟨w1,w2⟩:=kw (.inr h16)
     have hmid:midT f.k f.wd f.id f.ix=digs f.wd++[44,32]:=by unfold midT; rw[if_pos h16]
     rw[hmid] at hlen hPd
     simp only[qA,qN,qO] at hlen
     rw[Vc]
     simp (disch:=omega) only[push_cast,qE,d14,d16]
     refine freeT [0,3,4] [1,2,5,6,7] [(qb2 b3 f a c)] (by kernel_rfl) mixed (by kernel_rfl) (hstab _ hL2 hb3L) ?_
     simp (disch:=omega) only[push_cast,qE,d14,d16]
     refine lOn Shp.eq mem0 rfl ?_
     simp (disch:=omega) only[push_cast,qE,d14,d16]
     refine bs_108_1 (newI fun b7 hb7 hn7=>?_)
     simp (disch:=omega) only[push_cast,qE,d14,d16]
     have hM7:∀ p∈((b7,Obj.cells (bytesV [40]).toArray 5 (0,0))::(qb2 b3 f a c)::M),wb.heap.size≤p.1:=(nC hb7 hM3)
     refine ⟨hstab _ ((nC hb7 hL2)) (.tail _ hb3L),appendB [40] un_108 infoU8 hro2 hb7 (by simp only[qN,qO]; omega) (fun v3 L3 hro3=>?_)⟩
     simp (disch:=omega) only[push_cast,qE,d14,d16]
     refine ⟨hstab _ (hro3.new hM7) (hro3.mem (.tail _ (.head _))),callV en_117 (callX_own (fun w' hw'=>appendIntZ_walk wb w' L3 _ v3 _ _ f.wd hw' hM7 hro3 w1 w2 (by simp only[qN,qO]; omega)) (fun v4 L4 hro4=>?_))⟩
     simp (disch:=omega) only[push_cast,qE,d14,d16]
     have hdl:=digs_le f.wd
     refine ⟨hstab _ (hro4.new hM7) (hro4.mem (.tail _ (.head _))),appendS [44,32] un_108 Tryz.underlying9 infoU8 hro4 (by simp only[qN,qO]; omega) (fun v5 L5 hro5=>?_)⟩
     simp (disch:=omega) only[push_cast,qE,d14,d16]
     refine ⟨hstab _ (hro5.new hM7) (hro5.mem (.tail _ (.head _))),hstab _ (hro5.new hM7) (hro5.mem (.tail _ (.head _))),?_⟩
     exact ⟨rfl,rfl,⟨[_,_],v5,(fun p hp=>by
      simp only[qM,qI,or_false] at hp
      rcases hp with rfl|rfl
      ·exact hb7
      ·exact hb3),.tail _ (.head _),rfl,hro5.cast (by rw[hPd]; simp only[qA,qN,qO]; omega) (by rw[hPd]; simp only[bytesV_append,List.append_assoc])⟩,rfl⟩
    have d16:decide (f.k=16)=false:=decide_eq_false h16
    rw[Vc]
    simp (disch:=omega) only[push_cast,qE,d14,d16]
    by_cases h19:f.k=19
    ·have d19:decide (f.k=19)=true:=decide_eq_true h19
     obtain ⟨⟨w1,w2⟩,i1,i2⟩:=kd h19
     have hmid:midT f.k f.wd f.id f.ix=digs f.id++([44,32]++(saysWord f.ix.toNat++[44,32])):=by unfold midT; rw[if_neg h16,if_pos h19]
     rw[hmid] at hlen hPd
     simp only[qA,qN,qO] at hlen
     rw[Vc]
     simp (disch:=omega) only[push_cast,qE,d14,d16,d19]
     refine freeT [0,3,4] [1,2,5,6,7] [(qb2 b3 f a c)] (by kernel_rfl) mixed (by kernel_rfl) (hstab _ hL2 hb3L) ?_
     simp (disch:=omega) only[push_cast,qE,d14,d16,d19]
     refine lOn Shp.eq mem0 rfl ?_
     simp (disch:=omega) only[push_cast,qE,d14,d16,d19]
     refine bs_108_1 (newI fun b7 hb7 hn7=>?_)
     simp (disch:=omega) only[push_cast,qE,d14,d16,d19]
     have hM7:∀ p∈((b7,Obj.cells (bytesV [40]).toArray 5 (0,0))::(qb2 b3 f a c)::M),wb.heap.size≤p.1:=(nC hb7 hM3)
     refine ⟨hstab _ ((nC hb7 hL2)) (.tail _ hb3L),appendB [40] un_108 infoU8 hro2 hb7 (by simp only[qN,qO]; omega) (fun v3 L3 hro3=>?_)⟩
     simp (disch:=omega) only[push_cast,qE,d14,d16,d19]
     refine ⟨hstab _ (hro3.new hM7) (hro3.mem (.tail _ (.head _))),callV en_117 (callX_own (fun w' hw'=>appendIntZ_walk wb w' L3 _ v3 _ _ f.id hw' hM7 hro3 w1 w2 (by simp only[qN,qO]; omega)) (fun v4 L4 hro4=>?_))⟩
     simp (disch:=omega) only[push_cast,qE,d14,d16,d19]
     have hdl:=digs_le f.id
     refine ⟨hstab _ (hro4.new hM7) (hro4.mem (.tail _ (.head _))),appendS [44,32] un_108 Tryz.underlying9 infoU8 hro4 (by simp only[qN,qO]; omega) (fun v5 L5 hro5=>?_)⟩
     simp (disch:=omega) only[push_cast,qE,d14,d16,d19]
     refine ⟨hstab _ (hro5.new hM7) (hro5.mem (.tail _ (.head _))),hstab _ (hro5.new hM7) (hro5.mem (.tail _ (.head _))),?_⟩
     refine lOn Shp.eq (hro5.mem (.tail _ (.head _))) rfl ?_
     simp (disch:=omega) only[push_cast,qE,d14,d16,d19]
     refine ldF Shp.eq ((hs.2 f.ix.toNat (by omega)).sub 0 [str (saysWord f.ix.toNat)] rfl) (out_of (fun p hp=>Nat.lt_of_lt_of_le hs.1 (hro5.new hM7 p hp))) ?_
     simp (disch:=omega) only[push_cast,qE,d14,d16,d19]
     refine appendS (saysWord f.ix.toNat) un_108 Tryz.underlying9 infoU8 hro5 (by simp only[qN,qO]; omega) (fun v6 L6 hro6=>?_)
     simp (disch:=omega) only[push_cast,qE,d14,d16,d19]
     refine appendS [44,32] un_108 Tryz.underlying9 infoU8 hro6 (by simp only[qN,qO]; omega) (fun v7 L7 hro7=>?_)
     simp (disch:=omega) only[push_cast,qE,d14,d16,d19]
     exact ⟨rfl,rfl,⟨[_,_],v7,(fun p hp=>by
      simp only[qM,qI,or_false] at hp
      rcases hp with rfl|rfl
      ·exact hb7
      ·exact hb3),.tail _ (.head _),rfl,hro7.cast (by rw[hPd]; simp only[qA,qN,qO]; omega) (by rw[hPd]; simp only[bytesV_append,List.append_assoc])⟩,rfl⟩
    have d19:decide (f.k=19)=false:=decide_eq_false h19
    have hP:P=saysWord f.k.toNat++[40]:=by rw[hPd]; unfold midT; rw[if_neg h16,if_neg h19,List.append_nil]
    rw[Vc]
    simp (disch:=omega) only[push_cast,qE,d14,d16,d19]
    by_cases h15:f.k=15
    ·have d15:decide (f.k=15)=true:=decide_eq_true h15
     rw[Vc]
     simp (disch:=omega) only[push_cast,qE,d14,d16,d19,d15]
     repeat' (first|((first|((first|refine gT rfl ?_ ?_|refine gF rfl ?_ ?_|refine cdD ?_ ?_)<;>intro h)|((first|refine gbT rfl ?_ ?_|refine gbF rfl ?_ ?_|refine cdB ?_ ?_)<;>intro h<;>(try subst h))|refine lOa Shp.eq rfl ?_|refine lAa Shp.eq rfl rfl ?_|refine newI (fun b hb hn=>?_)|refine sXb Siz.eq rfl rfl ?_)<;>simp (disch:=omega) only[push_cast,qE,d14,d16,d19,d15])|(first|rw[Vc]|rw[Vb])<;>(try simp (disch:=omega) only[push_cast,qE,d14,d16,d19,d15]))
     refine bs_108_1 (newI fun b7 hb7 hn7=>?_)
     simp (disch:=omega) only[push_cast,qE,d14,d16,d19,d15]
     refine appendB [40] un_108 infoU8 hro2 hb7 (by simp only[qN,qO]; omega) (fun v3 L3 hro3=>?_)
     simp (disch:=omega) only[push_cast,qE,d14,d16,d19,d15]
     exact ⟨rfl,rfl,⟨[_,_],v3,(fun p hp=>by
      simp only[qM,qI,or_false] at hp
      rcases hp with rfl|rfl
      ·exact hb7
      ·exact hb3),.tail _ (.head _),rfl,hro3.cast (by rw[hP]; simp only[qA,qN,qO]; omega) (by rw[hP]; simp only[bytesV_append,List.append_assoc])⟩,rfl⟩
    have d15:decide (f.k=15)=false:=decide_eq_false h15
    by_cases h17:f.k=17
    ·have d17:decide (f.k=17)=true:=decide_eq_true h17
     rw[Vc]
     simp (disch:=omega) only[push_cast,qE,d14,d16,d19,d15,d17]
     repeat' (first|((first|((first|refine gT rfl ?_ ?_|refine gF rfl ?_ ?_|refine cdD ?_ ?_)<;>intro h)|((first|refine gbT rfl ?_ ?_|refine gbF rfl ?_ ?_|refine cdB ?_ ?_)<;>intro h<;>(try subst h))|refine lOa Shp.eq rfl ?_|refine lAa Shp.eq rfl rfl ?_|refine newI (fun b hb hn=>?_)|refine sXb Siz.eq rfl rfl ?_)<;>simp (disch:=omega) only[push_cast,qE,d14,d16,d19,d15,d17])|(first|rw[Vc]|rw[Vb])<;>(try simp (disch:=omega) only[push_cast,qE,d14,d16,d19,d15,d17]))
     refine bs_108_1 (newI fun b7 hb7 hn7=>?_)
     simp (disch:=omega) only[push_cast,qE,d14,d16,d19,d15,d17]
     refine appendB [40] un_108 infoU8 hro2 hb7 (by simp only[qN,qO]; omega) (fun v3 L3 hro3=>?_)
     simp (disch:=omega) only[push_cast,qE,d14,d16,d19,d15,d17]
     exact ⟨rfl,rfl,⟨[_,_],v3,(fun p hp=>by
      simp only[qM,qI,or_false] at hp
      rcases hp with rfl|rfl
      ·exact hb7
      ·exact hb3),.tail _ (.head _),rfl,hro3.cast (by rw[hP]; simp only[qA,qN,qO]; omega) (by rw[hP]; simp only[bytesV_append,List.append_assoc])⟩,rfl⟩
    have d17:decide (f.k=17)=false:=decide_eq_false h17
    by_cases h18:f.k=18
    ·have d18:decide (f.k=18)=true:=decide_eq_true h18
     rw[Vc]
     simp (disch:=omega) only[push_cast,qE,d14,d16,d19,d15,d17,d18]
     repeat' (first|((first|((first|refine gT rfl ?_ ?_|refine gF rfl ?_ ?_|refine cdD ?_ ?_)<;>intro h)|((first|refine gbT rfl ?_ ?_|refine gbF rfl ?_ ?_|refine cdB ?_ ?_)<;>intro h<;>(try subst h))|refine lOa Shp.eq rfl ?_|refine lAa Shp.eq rfl rfl ?_|refine newI (fun b hb hn=>?_)|refine sXb Siz.eq rfl rfl ?_)<;>simp (disch:=omega) only[push_cast,qE,d14,d16,d19,d15,d17,d18])|(first|rw[Vc]|rw[Vb])<;>(try simp (disch:=omega) only[push_cast,qE,d14,d16,d19,d15,d17,d18]))
     refine bs_108_1 (newI fun b7 hb7 hn7=>?_)
     simp (disch:=omega) only[push_cast,qE,d14,d16,d19,d15,d17,d18]
     refine appendB [40] un_108 infoU8 hro2 hb7 (by simp only[qN,qO]; omega) (fun v3 L3 hro3=>?_)
     simp (disch:=omega) only[push_cast,qE,d14,d16,d19,d15,d17,d18]
     exact ⟨rfl,rfl,⟨[_,_],v3,(fun p hp=>by
      simp only[qM,qI,or_false] at hp
      rcases hp with rfl|rfl
      ·exact hb7
      ·exact hb3),.tail _ (.head _),rfl,hro3.cast (by rw[hP]; simp only[qA,qN,qO]; omega) (by rw[hP]; simp only[bytesV_append,List.append_assoc])⟩,rfl⟩
    have d18:decide (f.k=18)=false:=decide_eq_false h18
    have d20:decide (f.k=20)=true:=decide_eq_true (by omega)
    rw[Vc]
    simp (disch:=omega) only[push_cast,qE,d14,d16,d19,d15,d17,d18,d20]
    repeat' (first|((first|((first|refine gT rfl ?_ ?_|refine gF rfl ?_ ?_|refine cdD ?_ ?_)<;>intro h)|((first|refine gbT rfl ?_ ?_|refine gbF rfl ?_ ?_|refine cdB ?_ ?_)<;>intro h<;>(try subst h))|refine lOa Shp.eq rfl ?_|refine lAa Shp.eq rfl rfl ?_|refine newI (fun b hb hn=>?_)|refine sXb Siz.eq rfl rfl ?_)<;>simp (disch:=omega) only[push_cast,qE,d14,d16,d19,d15,d17,d18,d20])|(first|rw[Vc]|rw[Vb])<;>(try simp (disch:=omega) only[push_cast,qE,d14,d16,d19,d15,d17,d18,d20]))
    refine bs_108_1 (newI fun b7 hb7 hn7=>?_)
    simp (disch:=omega) only[push_cast,qE,d14,d16,d19,d15,d17,d18,d20]
    refine appendB [40] un_108 infoU8 hro2 hb7 (by simp only[qN,qO]; omega) (fun v3 L3 hro3=>?_)
    simp (disch:=omega) only[push_cast,qE,d14,d16,d19,d15,d17,d18,d20]
    exact ⟨rfl,rfl,⟨[_,_],v3,(fun p hp=>by
     simp only[qM,qI,or_false] at hp
     rcases hp with rfl|rfl
     ·exact hb7
     ·exact hb3),.tail _ (.head _),rfl,hro3.cast (by rw[hP]; simp only[qA,qN,qO]; omega) (by rw[hP]; simp only[bytesV_append,List.append_assoc])⟩,rfl⟩
   ·rintro wb e ds L ⟨rfl,rfl,⟨A,v3,hA,hbA,h0,hro3⟩,h3⟩
    have hMA:∀ p∈A++M,wb.heap.size≤p.1:=(nA hA hM)
    simp (disch:=omega) only[push_cast,qE,h0,h3]
    refine lOn Shp.eq (hro3.mem (List.mem_append_left _ hbA)) rfl ?_
    simp (disch:=omega) only[push_cast,qE,h0,h3]
    refine callV en_57 (callX_own (fun w' hw'=>hF wb w' _ _ lo v3 _ _ f.sub a c hw' hs hlo hMA hro3 hr hc hc2 hel hszs (by omega)) (fun v4 L4 hro4=>?_))
    simp (disch:=omega) only[push_cast,qE,h0,h3]
    refine bs_108_1 (newI fun b8 hb8 hn8=>?_)
    simp (disch:=omega) only[push_cast,qE,h0,h3]
    refine appendB [41] un_108 infoU8 hro4 hb8 (by simp only[qA,qN,qO]; omega) (fun v5 L5 hro5=>?_)
    simp (disch:=omega) only[push_cast,qE,h0,h3]
    obtain ⟨L6,hro6,hs6⟩:=RowO.shrink ((b8,Obj.cells (bytesV [41]).toArray 5 (0,0))::A) hro5 ((nC hb8 hA))
    have htx:textG f=P++(textM 0 f.sub++[41]):=by rw[textG_eq,if_neg hk14,if_pos hop,hPd,List.append_assoc,List.append_assoc]
    rw[htx]
    exact fun w' hw'=>⟨_,L6,rfl,hs6 _ hw',hro6.cast (by simp only[qA,qN,qO]; omega) (by simp only[bytesV_append,List.append_assoc])⟩
  ·have d15:decide (f.k=15)=false:=decide_eq_false (by omega)
   have d16:decide (f.k=16)=false:=decide_eq_false (by omega)
   have d17:decide (f.k=17)=false:=decide_eq_false (by omega)
   have d18:decide (f.k=18)=false:=decide_eq_false (by omega)
   have d19:decide (f.k=19)=false:=decide_eq_false (by omega)
   have d20:decide (f.k=20)=false:=decide_eq_false (by omega)
   rw[Vb]
   simp (disch:=omega) only[push_cast,qE,d14,d16,d19,d15,d17,d18,d20]
   repeat' (first|((first|((first|refine gT rfl ?_ ?_|refine gF rfl ?_ ?_|refine cdD ?_ ?_)<;>intro h)|((first|refine gbT rfl ?_ ?_|refine gbF rfl ?_ ?_|refine cdB ?_ ?_)<;>intro h<;>(try subst h))|refine lOa Shp.eq rfl ?_|refine lAa Shp.eq rfl rfl ?_|refine newI (fun b hb hn=>?_)|refine sXb Siz.eq rfl rfl ?_)<;>simp (disch:=omega) only[push_cast,qE,d14,d16,d19,d15,d17,d18,d20])|(first|rw[Vc]|rw[Vb])<;>(try simp (disch:=omega) only[push_cast,qE,d14,d16,d19,d15,d17,d18,d20]))
   obtain ⟨L4,hro4,hs4⟩:=RowO.shrink [(qb2 b3 f a c)] hro2 (fun p hp=>by rw[List.mem_singleton.1 hp]; exact hb3)
   have htx:textG f=saysWord f.k.toNat:=by rw[textG_eq,if_neg hk14,if_neg hop,List.append_nil]
   rw[htx]
   exact fun w' hw'=>⟨_,L4,rfl,hs4 _ hw',hro4⟩
end Go.Proofs.YtdmdgkpjjpijdaaGreatDoor
