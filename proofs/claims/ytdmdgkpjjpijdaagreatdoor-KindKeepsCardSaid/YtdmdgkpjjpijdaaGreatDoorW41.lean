/- YtdmdgkpjjpijdaaGreatDoor: rules for bytes and small numbers. -/
import Derived.Test.YtdmdgkpjjpijdaaGreatDoorW60
import Derived.Laws.Shifts
import Derived.Laws.BitsLemmas
import Derived.Test.YtdmdgkpjjpijdaaGreatDoorW37
namespace Go.K
open Go
open Nat renaming reduceEqDiff → qE
def isStr:Option TypeDesc→Bool
 | some .string=>true
 | _=>false
theorem isStr_spec {x:Option TypeDesc} (h:isStr x=true):x=some .string:=by
 unfold isStr at h
 split at h
 ·rfl
 ·cases h
def pairB (P:Program) (t:TypeId):Bool:=match P.underlying t with
 | some (.struct fs)=>match fs.toList with
  | [f0,f1]=>(f0.name != "_") && (f1.name != "_") && isStr (P.underlying f0.type) && isStr (P.underlying f1.type) && decide (f0.offset=0) && decide (f1.offset=1) && !P.stoodInHeld t && !P.eqGuardType P.depth t
  | _=>false
 | _=>false
theorem pairB_spec {P:Program} {t:TypeId} (h:pairB P t=true):∃ f0 f1:Field,P.underlying t=some (.struct #[f0,f1])∧(f0.name != "_")=true∧(f1.name != "_")=true∧P.underlying f0.type=some .string∧P.underlying f1.type=some .string∧f0.offset=0∧f1.offset=1∧P.stoodInHeld t=false∧P.eqGuardType P.depth t=false:=by
 unfold pairB at h
 split at h
 ·rename_i fs hu
  split at h
  ·rename_i f0 f1 hf
   have e:fs=#[f0,f1]:=Array.toList_inj.1 hf
   subst e
   simp only[Bool.and_eq_true,decide_eq_true_eq,Bool.not_eq_true'] at h
   obtain ⟨⟨⟨⟨⟨⟨⟨h1,h2⟩,h3⟩,h4⟩,h5⟩,h6⟩,h7⟩,h8⟩:=h
   exact ⟨f0,f1,hu,h1,h2,isStr_spec h3,isStr_spec h4,h5,h6,h7,h8⟩
  ·cases h
 ·cases h
theorem neq_pair {P:Program} {t:TypeId} {x y:Operand} {K:Value→Prop} (hB:pairB P t=true) (a b:List UInt8) :
 PureX P (binV .neq t x y (.agg #[str a,str b]) (.agg #[str a,str b])) (tag K)=K (.bool false):=px (fun w=>by
 obtain ⟨f0,f1,hu,hn0,hn1,ht0,ht1,ho0,ho1,hs,hg⟩:=pairB_spec hB
 have h0:∀ (d:Nat) (ty:TypeId) (l:List UInt8),P.underlying ty=some .string→(Op.equalIn (d+1) ty (str l) (str l)).run P w=.ok true w:=fun d ty l h=>by
  unfold Op.equalIn
  simp only[underlying,Sem.run_bind,run_program,Result.andThen_ok,h,Sem.run_pure,str]
  rw[show ((⟨l.toArray⟩:ByteArray) == ⟨l.toArray⟩)=true from beq_self_eq_true l.toArray]
 have hp:∀ (ty:TypeId) (cs:Array Value) (i:Nat) (v:Value),P.underlying ty=some .string→cs[i]?=some v→(part ty cs i).run P w=.ok v w:=fun ty cs i v h hi=>by
  simp[part,isAgg,underlying,h,hi]
 have h:(Op.equal t (.agg #[str a,str b]) (.agg #[str a,str b])).run P w=.ok true w:=by
  show (Op.equalIn (9998+1+1) t (.agg #[str a,str b]) (.agg #[str a,str b])).run P w=_
  unfold Op.equalIn
  have n0:f0.name≠ "_":=by simpa using hn0
  have n1:f1.name≠ "_":=by simpa using hn1
  simp[underlying,hu,hs,n0,n1,ho0,ho1,hp f0.type #[str a,str b] 0 (str a) ht0 rfl,hp f1.type #[str a,str b] 1 (str b) ht1 rfl,h0 9998 f0.type a ht0,h0 9998 f1.type b ht1]
 have hg2:(eqGuard .neq t x y (.agg #[str a,str b]) (.agg #[str a,str b])).run P w=.ok () w:=by
  simp[eqGuard,hg]
 show ((do eqGuard .neq t x y (.agg #[str a,str b]) (.agg #[str a,str b]); (do pure (.bool (!(← Op.equal t (.agg #[str a,str b]) (.agg #[str a,str b]))))):Sem Value)).run P w=_
 simp only[Sem.run_bind,Sem.run_pure,Result.andThen_ok,h,hg2]
 rfl) K
end Go.K
namespace Go.Proofs.YtdmdgkpjjpijdaaGreatDoor
open Go Go.K
open Nat renaming reduceEqDiff → qE
set_option maxRecDepth 100000
set_option linter.unusedVariables false
set_option linter.unusedSimpArgs false
set_option maxHeartbeats 4000000
theorem neq_note {x y:Operand} {K:Value→Prop} (a b:List UInt8):PureX Tryz.prog (binV .neq 90 x y (.agg #[str a,str b]) (.agg #[str a,str b])) (tag K)=K (.bool false) :=
 neq_pair (by kernel_rfl) a b
structure EqScI (w0:World) (b2 b3:Nat) (nt:List NoteT) (na na':Option Addr) (nc nc':Nat) (L0:Own) (i:Nat) (wb:World) (e:Env) (ds:List Deferred) (L:Own):Prop where
 hw:wb=w0
 hds:ds=[]
 o:L=L0
 il:i≤nt.length
 h2:e 2=.pointer (some ⟨b2,0,none⟩)
 h3:e 3=.pointer (some ⟨b3,0,none⟩)
 h23:e 23=i64 nt.length
 h24:e 24=i64 i
theorem eqSchema_walk (w:World) (lo lo':Nat) (l:List Fld) (nt:List NoteT) (a a':Option Addr) (c c':Nat) (na na':Option Addr) (nc nc':Nat) (hlo:lo≤w.heap.size) (hlo':lo'≤w.heap.size) (h:SchAt w lo a l c na nt nc) (h':SchAt w lo' a' l c' na' nt nc') :
 Calls Tryz.prog 8 #[schV a l c na nt nc,schV a' l c' na' nt nc'] w (Rets w (Is (.bool true))):=by
 have hl:l.length≤9223372036854775807:=Nat.le_trans h.hc h.hc2
 have hnl:nt.length≤9223372036854775807:=Nat.le_trans h.hnc h.hnc2
 refine enterT (args:=[schV a l c na nt nc,schV a' l c' na' nt nc']) Tryz.func8 rfl Tryz.ntmps8 (congrArg Array.toList Tryz.results8) (by kernel_rfl) (by simp) (Sy.refl w) ?_
 simp (disch:=omega) only[push_cast,qE,schV]
 refine newI (fun b2 hb2 hn2=>?_)
 refine sp ?_
 refine newI (fun b3 hb3 hn3=>?_)
 refine sp ?_
 have hL:∀ p∈[(qb4 b3 a' l.length c' na' nt.length nc'),(qb4 b2 a l.length c na nt.length nc)],w.heap.size≤p.1:=by
  intro p hp
  simp only[List.mem_cons,List.mem_nil_iff,or_false] at hp
  rcases hp with rfl|rfl<;>assumption
 repeat' (first|((first|((first|refine gT rfl ?_ ?_|refine gF rfl ?_ ?_|refine cdD ?_ ?_)<;>intro h)|((first|refine gbT rfl ?_ ?_|refine gbF rfl ?_ ?_|refine cdB ?_ ?_)<;>intro h<;>(try subst h))|refine lOa Shp.eq rfl ?_|refine lAa Shp.eq rfl rfl ?_|refine newI (fun b hb hn=>?_)|refine sXb Siz.eq rfl rfl ?_)<;>simp (disch:=omega) only[push_cast,qE]))
 refine callV en_22 (cIs (fun w' hw'=>eqFields_walk w' lo lo' l a a' c c' (Nat.le_trans hlo hw'.size) (Nat.le_trans hlo' hw'.size) (h.hr.sy hlo hw' (fun p hp=>Nat.le_trans hlo (hL p hp))) (h'.hr.sy hlo' hw' (fun p hp=>Nat.le_trans hlo' (hL p hp))) hl) ?_)
 simp (disch:=omega) only[push_cast,qE,ne_eq,not_true_eq_false,decide_false,Bool.not_true]
 repeat' (first|((first|((first|refine gT rfl ?_ ?_|refine gF rfl ?_ ?_|refine cdD ?_ ?_)<;>intro h)|((first|refine gbT rfl ?_ ?_|refine gbF rfl ?_ ?_|refine cdB ?_ ?_)<;>intro h<;>(try subst h))|refine lOa Shp.eq rfl ?_|refine lAa Shp.eq rfl rfl ?_|refine newI (fun b hb hn=>?_)|refine sXb Siz.eq rfl rfl ?_)<;>simp (disch:=omega) only[push_cast,qE,ne_eq,not_true_eq_false,decide_false,Bool.not_true]))
 rw[Vc]
 simp (disch:=omega) only[push_cast,qE,ne_eq,not_true_eq_false,decide_false,Bool.not_true]
 repeat' (first|((first|((first|refine gT rfl ?_ ?_|refine gF rfl ?_ ?_|refine cdD ?_ ?_)<;>intro h)|((first|refine gbT rfl ?_ ?_|refine gbF rfl ?_ ?_|refine cdB ?_ ?_)<;>intro h<;>(try subst h))|refine lOa Shp.eq rfl ?_|refine lAa Shp.eq rfl rfl ?_|refine newI (fun b hb hn=>?_)|refine sXb Siz.eq rfl rfl ?_)<;>simp (disch:=omega) only[push_cast,qE,ne_eq,not_true_eq_false,decide_false,Bool.not_true]))
 rw[Vb]
 refine sp ?_
 refine loopT (G:=Nat) (EqScI w b2 b3 nt na na' nc nc' _) (fun i=>nt.length - i) 0 (by kernel_rfl) ⟨rfl,rfl,rfl,by omega,rfl,rfl,rfl,rfl⟩ ?_
 rintro i wb e ds L ⟨rfl,rfl,rfl,hil,h2,h3,h23,h24⟩
 simp (disch:=omega) only[push_cast,qE,h2,h3,h23,h24]
 rw[Vc]
 simp (disch:=omega) only[push_cast,qE,h2,h3,h23,h24]
 refine cdD (fun hlt=>?_) (fun hge=>?_)
 ·obtain ⟨x,hx⟩:∃ x,nt[i]?=some x:=⟨_,List.getElem?_eq_getElem (by omega)⟩
  rcases h.hn with h0|⟨bn,off,rfl,hbn,hat⟩
  ·rw[h0] at hx; simp at hx
  rcases h'.hn with h0|⟨bn',off',rfl,hbn',hat'⟩
  ·rw[h0] at hx; simp at hx
  obtain ⟨x1,x2,x3⟩:=hat i x hx
  obtain ⟨y1,y2,y3⟩:=hat' i x hx
  simp (disch:=omega) only[push_cast,qE,h2,h3,h23,h24]
  rw[Vb]
  simp (disch:=omega) only[push_cast,qE,h2,h3,h23,h24]
  refine drawQT (by kernel_rfl) (by kernel_rfl) mixed (by kernel_rfl) ?_
  simp (disch:=omega) only[push_cast,qE,h2,h3,h23,h24]
  repeat' (first|((first|((first|refine gT rfl ?_ ?_|refine gF rfl ?_ ?_|refine cdD ?_ ?_)<;>intro h)|((first|refine gbT rfl ?_ ?_|refine gbF rfl ?_ ?_|refine cdB ?_ ?_)<;>intro h<;>(try subst h))|refine lOa Shp.eq rfl ?_|refine lAa Shp.eq rfl rfl ?_|refine newI (fun b hb hn=>?_)|refine sXb Siz.eq rfl rfl ?_)<;>simp (disch:=omega) only[push_cast,qE,h2,h3,h23,h24]))
  refine ldAggF Shp.eq x3 rfl (out_of (fun p hp=>Nat.lt_of_lt_of_le (Nat.lt_of_lt_of_le hbn hlo) (hL p hp))) ?_
  simp (disch:=omega) only[push_cast,qE,h2,h3,h23,h24]
  repeat' (first|((first|((first|refine gT rfl ?_ ?_|refine gF rfl ?_ ?_|refine cdD ?_ ?_)<;>intro h)|((first|refine gbT rfl ?_ ?_|refine gbF rfl ?_ ?_|refine cdB ?_ ?_)<;>intro h<;>(try subst h))|refine lOa Shp.eq rfl ?_|refine lAa Shp.eq rfl rfl ?_|refine newI (fun b hb hn=>?_)|refine sXb Siz.eq rfl rfl ?_)<;>simp (disch:=omega) only[push_cast,qE,h2,h3,h23,h24]))
  refine ldAggF Shp.eq y3 rfl (out_of (fun p hp=>Nat.lt_of_lt_of_le (Nat.lt_of_lt_of_le hbn' hlo') (hL p hp))) ?_
  simp (disch:=omega) only[push_cast,qE,h2,h3,h23,h24,neq_note]
  rw[Vc]
  simp (disch:=omega) only[push_cast,qE,h2,h3,h23,h24]
  exact ⟨i+1,⟨rfl,rfl,rfl,by omega,h2,h3,h23,uu⟩,by omega⟩
 ·simp (disch:=omega) only[push_cast,qE,h2,h3,h23,h24]
  exact finIs hL rfl
theorem infoU8:(Tryz.prog.info? 5).map (fun i=>(i.zero,i.size,i.bytes))=some (some (.int .u8 0),1,1):=by kernel_rfl
def sepT (i:Nat):List UInt8:=if i=0 then [] else [44,32]
variable {K:Value→Prop}
@[push_cast] theorem bin_shr8 (t:TypeId) (x y:Operand) (n:Int):PureX Tryz.prog (binV .shr t x y (.int .u8 n) (.int .u64 4)) (tag K)=K (.int .u8 (n / 16)):=px (fun w=>by simp[binV,eqGuard,binOp,shift_shr_any,IntKind.bits]) K
@[push_cast] theorem bin_and8 (t:TypeId) (x y:Operand) (n:Int) (h0:0≤n) (h1:n < 256):PureX Tryz.prog (binV .and t x y (.int .u8 n) (.int .u8 15)) (tag K)=K (.int .u8 (n % 16)):=px (fun w=>by simp[binV,eqGuard,binOp_and,intBits_and,u8_and15 n h0 h1]) K
@[push_cast] theorem bin_quo10 (t:TypeId) (x y:Operand) (n:Int) (h0:0≤n) (h1:n < 1000):PureX Tryz.prog (binV .quo t x y (i64 n) (i64 10)) (tag K)=K (i64 (n / 10)):=px (fun w=>by simp[binV,eqGuard,binOp,Op.intDiv]; rw[Int.tdiv_eq_ediv_of_nonneg h0,wrap_id64 _ (by omega) (by omega)]) K
@[push_cast] theorem bin_rem10 (t:TypeId) (x y:Operand) (n:Int) (h0:0≤n) (h1:n < 1000):PureX Tryz.prog (binV .rem t x y (i64 n) (i64 10)) (tag K)=K (i64 (n % 10)):=px (fun w=>by simp[binV,eqGuard,binOp,Op.intDiv]; rw[Int.tmod_eq_emod_of_nonneg h0]) K
theorem bs4 {y1 y2 y3 y4:Int} {wb:World} {L:Own} {K:Value→World→Own→Prop} (h:NewX wb L (.cells #[.int .u8 y1,.int .u8 y2,.int .u8 y3,.int .u8 y4] 5 (0,0)) (tag fun b L=>K (.slice (some ⟨b,0,none⟩) 4 4) wb L)):ValX Tryz.prog (Instr.buildSlice 108 4 #[(0,.int .u8 y1),(1,.int .u8 y2),(2,.int .u8 y3),(3,.int .u8 y4)]) wb L (tag K):=valX_new (fun w=>by kernel_rfl) h
def digs (n:Int):List UInt8:=if n < 10 then [UInt8.ofNat (48+n.toNat)] else [UInt8.ofNat (48+n.toNat / 10),UInt8.ofNat (48+n.toNat % 10)]
theorem small_walk (w:World) (k:Nat) (h1:k < 100):Calls Tryz.prog 133 #[i64 k] w (Rets w (Is (str (digs k)))):=by
 refine enterT (args:=[i64 k]) Tryz.func133 rfl Tryz.ntmps133 (congrArg Array.toList Tryz.results133) (by kernel_rfl) (by simp) (Sy.refl w) ?_
 refine sp ?_
 rw[Vc]
 refine sp ?_
 refine cdD (fun hlt=>?_) (fun hge=>?_)
 ·refine sp ?_
  refine Eq.mpr (ssLoHi_9 _ .i64 k (k+1) (by omega) (by omega) (Int.le_trans (by omega:(k:Int)+1≤36) (by decide +kernel))) ?_
  refine sp ?_
  refine finIs (by simp) (congrArg str ?_)
  have h2:k < 10:=by omega
  clear hlt h1
  revert k
  decide +kernel
 ·refine sp ?_
  refine Eq.mpr (ssLoHi_9 _ .i64 (k * 2) (k * 2+2) (by omega) (by omega) (Int.le_trans (by omega:(k:Int) * 2+2≤200) (by decide +kernel))) ?_
  refine sp ?_
  refine finIs (by simp) (congrArg str ?_)
  have h2:10≤k:=by omega
  clear hge
  revert h2
  revert k
  decide +kernel
@[push_cast] theorem wrap_idu64 (n:Int) (h1:0≤n) (h2:n≤18446744073709551615):IntKind.u64.wrap n=n:=by
 simp only[IntKind.wrap,IntKind.bits,IntKind.signed,Bool.false_and,Bool.false_eq_true,if_false]
 exact Int.emod_eq_of_lt h1 (by omega)
theorem appendUint_walk (wb w:World) (L M:Own) (v:Value) (k:Nat) (xs:List Value) (n:Nat) (hw:Sy wb L w) (hM:∀ p∈M,wb.heap.size≤p.1) (hro:RowO wb 5 1 L M v k xs) (hn:n < 100) (hk:k+2≤70368744177664) :
 Calls Tryz.prog 126 #[v,.int .u64 n,i64 10] w (fun e w'=>∃ v' L',e=.returned v'∧Sy wb L' w'∧RowO wb 5 1 L' M v' (k+(digs n).length) (xs++bytesV (digs n))):=by
 refine enterB (args:=[v,.int .u64 n,i64 10]) Tryz.func126 rfl Tryz.ntmps126 (congrArg Array.toList Tryz.results126) (by kernel_rfl) (by simp) hw ?_
 have hd:(digs n).length≤2:=by unfold digs; split<;>simp
 refine sp ?_
 rw[Vc]
 simp (disch:=omega) only[push_cast,qE,decide_true]
 rw[Vc]
 refine sp ?_
 refine cdD (fun hlt=>?_) (fun hge=>absurd (show (n:Int) < 100 by omega) hge)
 refine sp ?_
 refine callV en_133 (cIs (fun w' hw'=>small_walk w' n hn) ?_)
 refine sp ?_
 refine appendS (digs n) un_108 Tryz.underlying9 infoU8 hro (by omega) (fun v2 L2 hro2=>?_)
 refine sp ?_
 exact fun w' hw'=>⟨_,L2,rfl,hw',hro2⟩
theorem appendInt1_walk (wb w:World) (L M:Own) (v:Value) (k:Nat) (xs:List Value) (n:Nat) (hw:Sy wb L w) (hM:∀ p∈M,wb.heap.size≤p.1) (hro:RowO wb 5 1 L M v k xs) (hn:n < 100) (hk:k+2≤70368744177664) :
 Calls Tryz.prog 122 #[v,i64 n,i64 10] w (fun e w'=>∃ v' L',e=.returned v'∧Sy wb L' w'∧RowO wb 5 1 L' M v' (k+(digs n).length) (xs++bytesV (digs n))):=by
 refine enterB (args:=[v,i64 n,i64 10]) Tryz.func122 rfl Tryz.ntmps122 (congrArg Array.toList Tryz.results122) (by kernel_rfl) (by simp) hw ?_
 refine sp ?_
 rw[Vc]
 refine sp ?_
 refine cdD (fun hlt=>absurd hlt (by omega)) (fun hge=>?_)
 refine sp ?_
 refine callV en_126 (callX_own (fun w' hw'=>appendUint_walk wb w' L M v k xs n hw' hM hro hn hk) (fun v2 L2 hro2=>?_))
 refine sp ?_
 exact fun w' hw'=>⟨_,L2,rfl,hw',hro2⟩
theorem appendInt_walk (wb w:World) (L M:Own) (v:Value) (k:Nat) (xs:List Value) (n:Nat) (hw:Sy wb L w) (hM:∀ p∈M,wb.heap.size≤p.1) (hro:RowO wb 5 1 L M v k xs) (hn:n < 100) (hk:k+2≤70368744177664) :
 Calls Tryz.prog 117 #[v,i64 n,i64 10] w (fun e w'=>∃ v' L',e=.returned v'∧Sy wb L' w'∧RowO wb 5 1 L' M v' (k+(digs n).length) (xs++bytesV (digs n))):=by
 refine enterB (args:=[v,i64 n,i64 10]) Tryz.func117 rfl Tryz.ntmps117 (congrArg Array.toList Tryz.results117) (by kernel_rfl) (by simp) hw ?_
 refine sp ?_
 refine callV en_122 (callX_own (fun w' hw'=>appendInt1_walk wb w' L M v k xs n hw' hM hro hn hk) (fun v2 L2 hro2=>?_))
 refine sp ?_
 exact fun w' hw'=>⟨_,L2,rfl,hw',hro2⟩
end Go.Proofs.YtdmdgkpjjpijdaaGreatDoor
