/- YtdmdgkpjjpijdaaGreatDoor: walks, part 59: fields that can be read in all worlds of a kind. -/
import Derived.Test.YtdmdgkpjjpijdaaGreatDoorW37
import Derived.Test.YtdmdgkpjjpijdaaGreatDoorKp
import Derived.Laws.MakeOwn
import Derived.Test.YtdmdgkpjjpijdaaGreatDoorKs
import Derived.RangeFuncRecord
namespace Go.Proofs.YtdmdgkpjjpijdaaGreatDoor
open Go Go.K
open Nat renaming reduceEqDiff → qE
open Go.Value renaming oneCell' → qC
open List renaming mem_cons → qM, mem_append_right → qR, mem_append_left → qL, length_append → qA, getElem?_eq_getElem → qH
set_option maxRecDepth 100000
set_option linter.unusedVariables false
set_option linter.unusedSimpArgs false
set_option maxHeartbeats 1000000
theorem infoFldC:(Tryz.prog.info? 37).map (fun i=>(i.zero,i.size,i.bytes))=some (some (.agg #[str [],.bool false,i64 0,i64 0,i64 0,i64 0,.slice none 0 0]),7,80):=by kernel_rfl
def Held (w:World) (M:Own):Prop:=∀ p∈M,w.heap[p.1]?=some p.2
theorem Held.of_sy {wb w:World} {L M:Own} (h:Sy wb L w) (hM:∀ p∈M,p∈L):Held w M:=fun p hp=>h.own p.1 p.2 (hM p hp)
inductive RdX (G:World→Prop):Option Addr→List Fld→Prop where
 | nil (a:Option Addr):RdX G a []
 | cons {b off:Nat} {a:Option Addr} {c:Nat} {f:Fld} {rest:List Fld} (hc:f.sub.length≤c) (hn:f.nm.length≤9223372036854775807) (hl:c≤9223372036854775807)
  (hat:∀ w,G w→At w b off (f.cells a c)) (hs:RdX G a f.sub) (hr:RdX G (some ⟨b,off+7,none⟩) rest):RdX G (some ⟨b,off,none⟩) (f::rest)
theorem RdX.toRd {G:World→Prop} {w:World} (hw:G w) {a:Option Addr} {l:List Fld} (h:RdX G a l):Rd w w.heap.size a l:=by
 induction h with
 | nil a=>exact .nil a
 | cons hc hn hl hat hs hr ih1 ih2=>exact .cons (hat w hw).lt hc hn hl (hat w hw) ih1 ih2
theorem RdX.mono {G G':World→Prop} (hg:∀ w,G' w→G w) {a:Option Addr} {l:List Fld} (h:RdX G a l):RdX G' a l:=by
 induction h with
 | nil a=>exact .nil a
 | cons hc hn hl hat hs hr ih1 ih2=>exact .cons hc hn hl (fun w hw=>hat w (hg w hw)) ih1 ih2
theorem RdX.get {G:World→Prop}:∀ {l:List Fld} {b off:Nat} {f:Fld} (i:Nat),RdX G (some ⟨b,off,none⟩) l→l[i]?=some f →
 ∃ a c,(∀ w,G w→At w b (off+i * 7) (f.cells a c))∧f.sub.length≤c∧f.nm.length≤9223372036854775807∧c≤9223372036854775807∧RdX G a f.sub
 | [],_,_,_,i,_,h2=>by simp at h2
 | g::l,b,off,f,0,h1,h2=>by
  cases h1 with
  | cons hc hn hl hat hs hr =>
   simp only[List.getElem?_cons_zero,Option.some.injEq] at h2
   subst h2
   exact ⟨_,_,un hat,hc,hn,hl,hs⟩
 | g::l,b,off,f,i+1,h1,h2=>by
  cases h1 with
  | cons hc hn hl hat hs hr =>
   simp only[List.getElem?_cons_succ] at h2
   obtain ⟨a,c,x1,x2⟩:=RdX.get i hr h2
   exact ⟨a,c,by rw[show off+(i+1) * 7=off+7+i * 7 by omega]; exact x1,x2⟩
theorem RdX.some_of {G:World→Prop} {a:Option Addr} {f:Fld} {l:List Fld} (h:RdX G a (f::l)):∃ b off,a=some ⟨b,off,none⟩:=by
 cases h with
 | cons hc hn hl hat hs hr=>exact ⟨_,_,rfl⟩
theorem RdX.take {G:World→Prop} {a:Option Addr} {l:List Fld} (h:RdX G a l) (n:Nat):RdX G a (l.take n):=by
 induction h generalizing n with
 | nil a=>simpa using .nil a
 | cons hc hn hl hat hs hr ih1 ih2 =>
  cases n with
  | zero=>simpa using .nil _
  | succ n=>exact .cons hc hn hl hat hs (ih2 n)
set_option maxHeartbeats 1600000
mutual
def OwF:Fld→Own→Option Addr→Nat→Prop
 | .mk nm _ _ _ _ _ sub,K,a,c=>nm.length≤9223372036854775807∧((sub=[]∧a=none∧c=0∧K=[]) ∨
  ∃ (b cap:Nat) (cs xs:List Value) (K':Own),a=some ⟨b,0,none⟩∧K=(b,Obj.cells cs.toArray 37 (0,0))::K'∧sub.length≤c∧c≤cap∧(c=cap∨c=sub.length)∧cap≤9223372036854775807∧cs.length=cap * 7∧cs.take (sub.length * 7)=xs∧OwK sub K' xs)
def OwK:List Fld→Own→List Value→Prop
 | [],K,cs=>K=[]∧cs=[]
 | f::l,K,cs=>∃ (K1 K2:Own) (a:Option Addr) (c:Nat) (cs':List Value),K=K1++K2∧cs=f.cells a c++cs'∧OwF f K1 a c∧OwK l K2 cs'
end
theorem OwF_iff (f:Fld) (K:Own) (a:Option Addr) (c:Nat):OwF f K a c↔f.nm.length≤9223372036854775807∧((f.sub=[]∧a=none∧c=0∧K=[]) ∨
 ∃ (b cap:Nat) (cs xs:List Value) (K':Own),a=some ⟨b,0,none⟩∧K=(b,Obj.cells cs.toArray 37 (0,0))::K'∧f.sub.length≤c∧c≤cap∧(c=cap∨c=f.sub.length)∧cap≤9223372036854775807∧cs.length=cap * 7∧cs.take (f.sub.length * 7)=xs∧OwK f.sub K' xs):=by
 cases f; rw[OwF]; rfl
abbrev OwS (l:List Fld) (K:Own) (a:Option Addr) (c:Nat):Prop:=OwF (.mk [] false 0 0 0 0 l) K a c
theorem OwS_iff (l:List Fld) (K:Own) (a:Option Addr) (c:Nat):OwS l K a c↔((l=[]∧a=none∧c=0∧K=[]) ∨
 ∃ (b cap:Nat) (cs xs:List Value) (K':Own),a=some ⟨b,0,none⟩∧K=(b,Obj.cells cs.toArray 37 (0,0))::K'∧l.length≤c∧c≤cap∧(c=cap∨c=l.length)∧cap≤9223372036854775807∧cs.length=cap * 7∧cs.take (l.length * 7)=xs∧OwK l K' xs):=by
 rw[OwS,OwF]; simp
theorem OwF.toS {f:Fld} {K:Own} {a:Option Addr} {c:Nat} (h:OwF f K a c):OwS f.sub K a c:=(OwS_iff _ _ _ _).2 ((OwF_iff _ _ _ _).1 h).2
theorem OwS.toF {f:Fld} {K:Own} {a:Option Addr} {c:Nat} (h:OwS f.sub K a c) (hn:f.nm.length≤9223372036854775807):OwF f K a c:=(OwF_iff _ _ _ _).2 ⟨hn,(OwS_iff _ _ _ _).1 h⟩
theorem OwF.nm_le {f:Fld} {K:Own} {a:Option Addr} {c:Nat} (h:OwF f K a c):f.nm.length≤9223372036854775807:=((OwF_iff _ _ _ _).1 h).1
theorem OwS.le {l:List Fld} {K:Own} {a:Option Addr} {c:Nat} (h:OwS l K a c):l.length≤c∧c≤9223372036854775807:=by
 rcases (OwS_iff _ _ _ _).1 h with ⟨rfl,_,rfl,_⟩|⟨b,cap,cs,xs,K',_,_,h1,h2,_,h3,_⟩
 ·exact ⟨Nat.le_refl _,by omega⟩
 ·exact ⟨h1,by omega⟩
theorem OwF.le {f:Fld} {K:Own} {a:Option Addr} {c:Nat} (h:OwF f K a c):f.sub.length≤c∧c≤9223372036854775807:=h.toS.le
theorem OwK.len:∀ {l:List Fld} {K:Own} {cs:List Value},OwK l K cs→cs.length=l.length * 7
 | [],K,cs,h=>by rw[OwK] at h; rw[h.2]; rfl
 | f::l,K,cs,h=>by
  rw[OwK] at h
  obtain ⟨K1,K2,a,c,cs',_,rfl,_,h2⟩:=h
  have:=OwK.len h2
  simp only[Fld.cells,qA,List.length_cons,List.length_nil,this]
  omega
theorem OwK.one:∀ {l:List Fld} {K:Own} {cs:List Value},OwK l K cs→∀ u∈cs,u.oneCell'=true
 | [],K,cs,h=>by rw[OwK] at h; rw[h.2]; intro u hu; cases hu
 | f::l,K,cs,h=>by
  rw[OwK] at h
  obtain ⟨K1,K2,a,c,cs',_,rfl,_,h2⟩:=h
  intro u hu
  rcases List.mem_append.1 hu with hu|hu
  ·simp only[Fld.cells,qM,List.mem_nil_iff,or_false] at hu
   rcases hu with rfl|rfl|rfl|rfl|rfl|rfl|rfl<;>rfl
  ·exact OwK.one h2 u hu
theorem OwK.append {m:List Fld} {K2:Own} {ds:List Value} (hd:OwK m K2 ds):∀ {l:List Fld} {K1:Own} {cs:List Value},OwK l K1 cs→OwK (l++m) (K1++K2) (cs++ds)
 | [],K1,cs,h=>by rw[OwK] at h; obtain ⟨rfl,rfl⟩:=h; exact hd
 | f::l,K1,cs,h=>by
  rw[OwK] at h
  obtain ⟨A,B,a,c,cs',rfl,rfl,h1,h2⟩:=h
  rw[List.cons_append,OwK]
  exact ⟨A,B++K2,a,c,cs'++ds,by rw[List.append_assoc],by rw[List.append_assoc],h1,OwK.append hd h2⟩
theorem OwK.single {f:Fld} {K:Own} {a:Option Addr} {c:Nat} (h:OwF f K a c):OwK [f] K (f.cells a c):=by
 rw[OwK]
 exact ⟨K,[],a,c,[],by simp,by simp,h,by rw[OwK]; exact ⟨rfl,rfl⟩⟩
theorem OwK.nil:OwK [] [] []:=by rw[OwK]; exact ⟨rfl,rfl⟩
theorem OwK.split {f:Fld}:∀ {l:List Fld} {K:Own} {cs:List Value} (i:Nat),OwK l K cs→l[i]?=some f →
 ∃ (KA KF KB:Own) (a:Option Addr) (c:Nat) (ca cb:List Value),K=KA++(KF++KB)∧cs=ca++(f.cells a c++cb)∧OwK (l.take i) KA ca∧OwF f KF a c∧OwK (l.drop (i+1)) KB cb
 | [],_,_,i,_,hi=>by simp at hi
 | g::l,K,cs,0,h,hi=>by
  simp only[List.getElem?_cons_zero,Option.some.injEq] at hi
  subst hi
  rw[OwK] at h
  obtain ⟨K1,K2,a,c,cs',rfl,rfl,h1,h2⟩:=h
  exact ⟨[],K1,K2,a,c,[],cs',rfl,rfl,by rw[List.take_zero]; exact .nil,h1,un h2⟩
 | g::l,K,cs,i+1,h,hi=>by
  simp only[List.getElem?_cons_succ] at hi
  rw[OwK] at h
  obtain ⟨K1,K2,a,c,cs',rfl,rfl,h1,h2⟩:=h
  obtain ⟨KA,KF,KB,a2,c2,ca,cb,rfl,rfl,q1,q2,q3⟩:=OwK.split i h2 hi
  refine ⟨K1++KA,KF,KB,a2,c2,g.cells a c++ca,cb,by rw[List.append_assoc],by rw[List.append_assoc],?_,q2,un q3⟩
  rw[List.take_succ_cons,OwK]
  exact ⟨K1,KA,a,c,ca,rfl,rfl,h1,q1⟩
theorem OwK.cons_inv {f:Fld} {l:List Fld} {K:Own} {cs:List Value} (h:OwK (f::l) K cs):∃ (K1 K2:Own) (a:Option Addr) (c:Nat) (cs':List Value),K=K1++K2∧cs=f.cells a c++cs'∧OwF f K1 a c∧OwK l K2 cs':=by
 rw[OwK] at h; exact h
theorem OwK.cons {f:Fld} {l:List Fld} {K1 K2:Own} {a:Option Addr} {c:Nat} {cs:List Value} (h:OwF f K1 a c) (h2:OwK l K2 cs):OwK (f::l) (K1++K2) (f.cells a c++cs):=by
 rw[OwK]; exact ⟨K1,K2,a,c,cs,rfl,rfl,h,h2⟩
theorem At.part {w:World} {b off:Nat} {x y:List Value} (h:At w b off (x++y)):At w b off x∧At w b (off+x.length) y:=by
 refine ⟨?_,h.sub x.length y (by simp)⟩
 have:=h.sub 0 x (by simp)
 simpa using this
mutual
theorem OwF.rdx {G:World→Prop}:∀ (f:Fld) {K:Own} {a:Option Addr} {c:Nat},OwF f K a c→(∀ w,G w→Held w K)→RdX G a f.sub
 | .mk nm nl k wd id ix sub,K,a,c,h,hG=>by
  rw[OwF] at h
  obtain ⟨h1,⟨rfl,rfl,rfl,rfl⟩|⟨b,cap,cs,xs,K',rfl,rfl,h2,h3,h4,h5,h6,h7,h8⟩⟩:=h
  ·exact .nil _
  ·refine OwK.rdx sub h8 (fun w hw p hp=>hG w hw p (.tail _ hp)) (fun w hw=>⟨_,_,_,hG w hw _ (.head _),?_⟩)
   have h9:=h8.len
   rw[List.drop_zero,h9]
   exact h7
theorem OwK.rdx {G:World→Prop}:∀ (l:List Fld) {K:Own} {cs:List Value} {b off:Nat},OwK l K cs→(∀ w,G w→Held w K)→(∀ w,G w→At w b off cs)→RdX G (some ⟨b,off,none⟩) l
 | [],_,_,_,_,_,_,_=>.nil _
 | f::l,K,cs,b,off,h,hG,hat=>by
  rw[OwK] at h
  obtain ⟨K1,K2,a,c,cs',rfl,rfl,h1,h2⟩:=h
  have hl:=OwF.le h1
  exact .cons hl.1 h1.nm_le hl.2 (fun w hw=>(At.part (hat w hw)).1) (OwF.rdx f h1 (fun w hw p hp=>hG w hw p (qL _ hp))) (OwK.rdx l h2 (fun w hw p hp=>hG w hw p (qR _ hp)) (fun w hw=>(At.part (hat w hw)).2))
end
theorem OwS.rdx {G:World→Prop} {l:List Fld} {K:Own} {a:Option Addr} {c:Nat} (h:OwS l K a c) (hG:∀ w,G w→Held w K):RdX G a l:=OwF.rdx _ h hG
theorem OwS.rd {l:List Fld} {K L:Own} {a:Option Addr} {c:Nat} {wb w:World} (h:OwS l K a c) (hw:Sy wb L w) (hK:∀ p∈K,p∈L):Rd w w.heap.size a l :=
 (h.rdx (G:=fun w=>Held w K) fun _ h=>h).toRd (Held.of_sy hw hK)
theorem OwF.rd {f:Fld} {K L:Own} {a:Option Addr} {c:Nat} {wb w:World} (h:OwF f K a c) (hw:Sy wb L w) (hK:∀ p∈K,p∈L):Rd w w.heap.size a f.sub:=h.toS.rd hw hK
mutual
def wideF (n:Nat):Fld→Bool
 | .mk _ _ _ _ _ _ sub=>decide (sub.length≤n) && wideL n sub
def wideL (n:Nat):List Fld→Bool
 | []=>true
 | f::l=>wideF n f && wideL n l
end
theorem wideF_iff (n:Nat) (f:Fld):wideF n f=true↔f.sub.length≤n∧wideL n f.sub=true:=by
 cases f; rw[wideF]; simp[Fld.sub]
theorem wideL_get {n:Nat}:∀ {l:List Fld} {i:Nat} {f:Fld},wideL n l=true→l[i]?=some f→wideF n f=true
 | [],i,f,_,h=>by simp at h
 | g::l,0,f,h,hi=>by
  rw[wideL,Bool.and_eq_true] at h
  simp only[List.getElem?_cons_zero,Option.some.injEq] at hi
  subst hi; exact h.1
 | g::l,i+1,f,h,hi=>by
  rw[wideL,Bool.and_eq_true] at h
  exact wideL_get h.2 (un hi)
theorem makeFullX {P:Program} {wb:World} {L:Own} {t e:TypeId} {z:Value} {size bytes n:Nat} {K:Value→World→Own→Prop} (kl kc:IntKind) (ht:P.underlying t=some (.slice e)) (hi:(P.info? e).map (fun i=>(i.zero,i.size,i.bytes))=some (some z,size,bytes)) (hzs:z.cells.size=size) (hb:bytes * n≤281474976710656) (h63:n≤9223372036854775807)
 (h:∀ (b:Nat) (cs:List Value),wb.heap.size≤b→b∉L.map (·.1)→cs.length=n * size→K (.slice (some ⟨b,0,none⟩) n n) wb ((b,.cells cs.toArray e (0,0))::L)):ValX P (Instr.makeSlice t (.int kl (n:Int)) (.int kc (n:Int))) wb L (tag K):=by
 obtain ⟨inf,hinf,h1,h2,h3⟩:∃ inf,P.info? e=some inf∧inf.zero=some z∧inf.size=size∧inf.bytes=bytes:=by
  cases hh:P.info? e with
  | none=>rw[hh] at hi; cases hi
  | some inf=>rw[hh] at hi; simp at hi; exact ⟨inf,rfl,hi.1,hi.2.1,hi.2.2⟩
 subst h2; subst h3
 refine valX_new (f:=fun b=>.slice (some ⟨b,0,none⟩) n n) (o:=.cells (Array.mk (madeCells z.cells (n * inf.size)).toList) e (0,0)) (fun w=>?_) (newI fun b hb' hn=>?_)
 ·have:=run_make (P:=P) w t e inf z ht hinf h1 kl kc (n:Int) (n:Int) (by omega) (by omega) (by
   have h:((inf.bytes * n:Nat):Int)≤281474976710656:=by omega
   rwa [Int.natCast_mul] at h) (by omega)
  simpa using this
 ·exact h b _ hb' hn (by simp[size_madeCells])
def CopyFsOK (n:Nat):Prop:=∀ (w:World) (lo:Nat) (l:List Fld) (a:Option Addr) (c:Nat),SizeOf.sizeOf l≤n→lo≤w.heap.size→Rd w lo a l→l.length≤c→c≤9223372036854775807→l.length≤1048576→wideL 1048576 l=true →
 Calls Tryz.prog 16 #[.slice a l.length c] w (RetsN w (fun v M=>∃ a',v=.slice a' l.length l.length∧OwS l M a' l.length))
def CopyFOK (n:Nat):Prop:=∀ (w:World) (lo:Nat) (f:Fld) (a:Option Addr) (c:Nat),SizeOf.sizeOf f≤n→lo≤w.heap.size→Rd w lo a f.sub→f.nm.length≤9223372036854775807→f.sub.length≤c→c≤9223372036854775807→wideF 1048576 f=true →
 Calls Tryz.prog 53 #[.agg (f.cells a c).toArray] w (RetsN w (fun u M=>∃ a',u=.agg (f.cells a' f.sub.length).toArray∧OwF f M a' f.sub.length))
theorem copyF_step (n:Nat) (hT:CopyFsOK n):CopyFOK (n+1):=by
 intro w lo f a c hn hlo hr hnm hc hc2 hwd
 have hwd2:=(wideF_iff _ _).1 hwd
 refine enterT (args:=[.agg (f.cells a c).toArray]) Tryz.func53 rfl Tryz.ntmps53 (congrArg Array.toList Tryz.results53) (by kernel_rfl) (by simp) (Sy.refl w) ?_
 simp (disch:=omega) only[push_cast,qE,Fld.cells]
 refine newI (fun b1 hb1 hn1=>?_)
 simp (disch:=omega) only[push_cast,qE,Fld.cells]
 refine newI (fun b2 hb2 hn2=>?_)
 simp (disch:=omega) only[push_cast,qE,Fld.cells]
 have hL:∀ x y:Obj,∀ p∈[(b2,x),(b1,y)],w.heap.size≤p.1:=fun x y p hp=>by
  simp only[qM,List.mem_nil_iff,or_false] at hp
  rcases hp with rfl|rfl
  ·exact hb2
  ·exact hb1
 refine lOn Shp.eq mem1 rfl ?_
 refine sp ?_
 have hsz:SizeOf.sizeOf f.sub≤n:=by cases f; simp only[Fld.sub,Fld.mk.sizeOf_spec] at hn ⊢; omega
 refine callV en_16 (callX_newR (fun w' hw'=>hT w' lo f.sub a c hsz (Nat.le_trans hlo hw'.size) (hr.sy hlo hw' (fun p hp=>Nat.le_trans hlo (hL _ _ p hp))) hc hc2 hwd2.1 hwd2.2) (fun u M hM hMn hu=>?_))
 obtain ⟨a',rfl,hO⟩:=hu
 refine sp ?_
 refine sXa 1 rfl Siz.eq rfl rfl ?_
 refine sp ?_
 refine lAg Shp.eq mem1 rfl rfl ?_
 refine sp ?_
 refine sXa 0 rfl Siz.eq rfl rfl ?_
 refine sp ?_
 refine lAg Shp.eq mem0 rfl rfl ?_
 refine sp ?_
 exact fun w' hw'=>⟨_,M,rfl,hw'.left (A:=[_,_]) (hL _ _),hM,a',rfl,hO.toF hnm⟩
structure CfI (w0:World) (l:List Fld) (a:Option Addr) (c b:Nat) (i:Nat) (wb:World) (e:Env) (ds:List Deferred) (L:Own):Prop where
 hw:wb=w0
 hds:ds=[]
 o:∃ (A:Own) (cs:List Value),L=(b,Obj.cells cs.toArray 37 (0,0))::A∧cs.length=l.length * 7∧OwK (l.take i) A (cs.take (i * 7))∧∀ p∈A,w0.heap.size≤p.1
 hi:i≤l.length
 h0:e 0=.slice a l.length c
 h3:e 3=.slice (some ⟨b,0,none⟩) l.length l.length
 h9:e 9=i64 l.length
 h10:e 10=i64 i
theorem splice_take {cs vs:List Value} {k n:Nat} (hn:vs.length=n) (h:k+n≤cs.length):(splice cs k vs).take (k+n)=cs.take k++vs:=by
 subst hn
 unfold splice
 rw[← List.append_assoc,List.take_append_of_le_length (by simp; omega),List.take_of_length_le (by simp; omega)]
theorem copyFs_gen (n:Nat) (hT:CopyFOK n) (w:World) (lo:Nat) (l:List Fld) (a:Option Addr) (c:Nat) (hn:SizeOf.sizeOf l≤n+1) (hlo:lo≤w.heap.size) (hr:Rd w lo a l) (hc:l.length≤c) (hc2:c≤9223372036854775807) (hlen:l.length≤2097152) (hwd:wideL 1048576 l=true) :
 Calls Tryz.prog 16 #[.slice a l.length c] w (RetsN w (fun v M=>∃ a',v=.slice a' l.length l.length∧OwS l M a' l.length)):=by
 refine enterB (args:=[.slice a l.length c]) Tryz.func16 rfl Tryz.ntmps16 (congrArg Array.toList Tryz.results16) (by kernel_rfl) (by simp) (Sy.refl w) ?_
 refine sp ?_
 refine makeFullX .i64 .i64 un_24 infoFldC rfl (n:=l.length) (by omega) (by omega) (fun b cs0 hb hbn hcs0=>?_)
 refine sp ?_
 rw[Vb]
 refine sp ?_
 refine loopW (G:=Nat) (CfI w l a c b) (fun i=>l.length - i) 0 _ (fun w hw=>hw) (by kernel_rfl) ⟨rfl,rfl,⟨[],cs0,rfl,hcs0,by rw[List.take_zero,Nat.zero_mul,List.take_zero]; exact .nil,by simp⟩,by omega,rfl,rfl,rfl,rfl⟩ ?_
 rintro i wb e ds L ⟨rfl,rfl,⟨A,cs,rfl,hcs,hk,hA⟩,hil,h0,h3,h9,h10⟩
 have hLn:∀ x:Obj,∀ p∈(b,x)::A,wb.heap.size≤p.1:=fun x p hp=>by
  rcases List.mem_cons.1 hp with rfl|hp
  ·exact hb
  ·exact hA p hp
 simp (disch:=omega) only[push_cast,qE,h0,h3,h9,h10]
 rw[Vc]
 simp (disch:=omega) only[push_cast,qE,h0,h3,h9,h10]
 refine cdD (fun hlt=>?_) (fun hge=>?_)
 ·obtain ⟨f,hf⟩:∃ f,l[i]?=some f:=⟨_,qH (by omega)⟩
  have hszf:SizeOf.sizeOf f≤n:=by
   have h1:=List.sizeOf_lt_of_mem (List.mem_of_getElem? hf)
   omega
  obtain ⟨bf,off,rfl,hbf⟩:∃ b off,a=some ⟨b,off,none⟩∧b < lo:=by
   obtain ⟨f0,l0,rfl⟩:∃ f l',l=f::l':=List.exists_cons_of_ne_nil (by rintro rfl; simp at hf)
   exact hr.some_of
  obtain ⟨fa,fc,x1,x2,x3,x4,x5,x6⟩:=hr.get i hf
  simp (disch:=omega) only[push_cast,qE,h0,h3,h9,h10]
  rw[Vb]
  simp (disch:=omega) only[push_cast,qE,h0,h3,h9,h10]
  refine ldAggF Shp.eq x2 rfl (out_of (fun p hp=>Nat.lt_of_lt_of_le (Nat.lt_of_lt_of_le x1 hlo) (hLn _ p hp))) ?_
  simp (disch:=omega) only[push_cast,qE,h0,h3,h9,h10]
  refine callV en_53 (callX_newR (fun w' hw'=>hT w' lo f fa fc hszf (Nat.le_trans hlo hw'.size) (x6.sy hlo hw' (fun p hp=>Nat.le_trans hlo (hLn _ p hp))) x4 x3 x5 (wideL_get hwd hf)) (fun u M hM hMn hS=>?_))
  obtain ⟨a2,rfl,hO⟩:=hS
  simp (disch:=omega) only[push_cast,qE,h0,h3,h9,h10,Fld.cells]
  refine stX 0 rfl Siz.eq rfl rfl (by simp[qC]) (by omega) ?_
  simp (disch:=omega) only[push_cast,qE,h0,h3,h9,h10,List.set_cons_zero]
  refine ⟨i+1,_,fun w hw=>hw,⟨rfl,rfl,⟨A++M,_,rfl,by show (splice cs (i * 7) (f.cells a2 f.sub.length)).length=_; rw[splice_length (by simp only[Fld.cells,List.length_cons,List.length_nil]; omega)]; exact hcs,?_,fun p hp=>?_⟩,by omega,h0,h3,h9,uu⟩,by omega⟩
  ·rw[Nat.add_one_mul,List.take_add_one,hf,Option.toList_some]
   show OwK _ _ ((splice cs (i * 7) (f.cells a2 f.sub.length)).take (i * 7+7))
   rw[splice_take (n:=7) rfl (by omega)]
   exact OwK.append (OwK.single hO) hk
  ·rcases List.mem_append.1 hp with hp|hp
   ·exact hA p hp
   ·exact hM p hp
 ·obtain rfl:i=l.length:=by omega
  rw[List.take_length,List.take_of_length_le (by omega)] at hk
  simp (disch:=omega) only[push_cast,qE,h0,h3,h9,h10]
  refine fun w' hw'=>⟨_,_,rfl,hw',hLn _,some ⟨b,0,none⟩,rfl,?_⟩
  exact (OwS_iff _ _ _ _).2 (.inr ⟨b,l.length,cs,cs,A,rfl,rfl,Nat.le_refl _,Nat.le_refl _,.inl rfl,by omega,hcs,List.take_of_length_le (by omega),hk⟩)
theorem copyFs_step (n:Nat) (hT:CopyFOK n):CopyFsOK (n+1):=fun w lo l a c hn hlo hr hc hc2 hlen hwd=>copyFs_gen n hT w lo l a c hn hlo hr hc hc2 (by omega) hwd
theorem copyFs_all:∀ n,CopyFsOK n∧CopyFOK n:=by
 intro n
 induction n with
 | zero =>
  refine ⟨fun w lo l a c hn=>?_,fun w lo f a c hn=>?_⟩
  ·cases l<;>simp at hn
  ·cases f; simp at hn
 | succ n ih=>exact ⟨copyFs_step n ih.2,copyF_step n ih.1⟩
theorem copyFieldsW_walk (w:World) (lo:Nat) (l:List Fld) (a:Option Addr) (c:Nat) (hlo:lo≤w.heap.size) (hr:Rd w lo a l) (hc:l.length≤c) (hc2:c≤9223372036854775807) (hl:l.length≤2097152) (hwd:wideL 1048576 l=true) :
 Calls Tryz.prog 16 #[.slice a l.length c] w (RetsN w (fun v M=>∃ a',v=.slice a' l.length l.length∧OwS l M a' l.length)):=copyFs_gen (SizeOf.sizeOf l) (copyFs_all _).2 w lo l a c (by omega) hlo hr hc hc2 hl hwd
theorem copyFields_walk (w:World) (lo:Nat) (l:List Fld) (a:Option Addr) (c:Nat) (hlo:lo≤w.heap.size) (hr:Rd w lo a l) (hc:l.length≤c) (hc2:c≤9223372036854775807) (hl:l.length≤1048576) (hwd:wideL 1048576 l=true) :
 Calls Tryz.prog 16 #[.slice a l.length c] w (RetsN w (fun v M=>∃ a',v=.slice a' l.length l.length∧OwS l M a' l.length)):=(copyFs_all _).1 w lo l a c (Nat.le_refl _) hlo hr hc hc2 hl hwd
set_option maxHeartbeats 4000000
structure SpI (w0:World) (b:Nat) (rest:List Value) (M:Own) (l:List Fld) (c:Nat) (mark:List UInt8) (tot:Nat) (i:Nat) (wb:World) (e:Env) (ds:List Deferred) (L:Own):Prop where
 hw:wb=w0
 hds:ds=[]
 o:∃ (ld:List Fld) (Kd Kr:Own) (csd csr:List Value),L=(b,Obj.cells (csd++(csr++rest)).toArray 37 (0,0))::(Kd++(Kr++M))∧ld.length=i∧(∀ f∈ld,f.nm=mark)∧(∀ N,wideL N l=true→wideL N ld=true)∧OwK ld Kd csd∧OwK (l.drop i) Kr csr∧(csd++(csr++rest)).length=tot∧(∀ p∈Kd,w0.heap.size≤p.1)∧∀ p∈Kr,w0.heap.size≤p.1
 hi:i≤l.length
 h0:e 0=.slice (some ⟨b,0,none⟩) l.length c
 h1:e 1=str mark
 h6:e 6=i64 l.length
 h7:e 7=i64 i
structure SpE (w0:World) (KM:Own) (wb:World) (e:Env) (ds:List Deferred) (L:Own):Prop where
 hw:wb=w0
 hds:ds=[]
 o:L=KM
 h6:e 6=i64 0
 h7:e 7=i64 0
def SpoilOK (n:Nat):Prop:=∀ (wb w:World) (l:List Fld) (K M:Own) (a:Option Addr) (c:Nat) (mark:List UInt8),SizeOf.sizeOf l≤n→mark.length≤9223372036854775807→OwS l K a c→Sy wb (K++M) w→(∀ p∈K++M,wb.heap.size≤p.1) →
 Calls Tryz.prog 27 #[.slice a l.length c,str mark] w (fun e w'=>e=.returned (.tuple #[])∧∃ (l':List Fld) (K':Own),OwS l' K' a c∧l'.length=l.length∧(∀ f∈l',f.nm=mark)∧(∀ N,wideL N l=true→wideL N l'=true)∧Sy wb (K'++M) w'∧∀ p∈K',wb.heap.size≤p.1)
theorem wideL_append (N:Nat):∀ (a b:List Fld),wideL N (a++b)=(wideL N a && wideL N b)
 | [],b=>by rw[wideL]; simp
 | f::a,b=>by rw[List.cons_append,wideL,wideL,wideL_append N a b,Bool.and_assoc]
theorem get_midF {A B C:List Value} {n k:Nat} {v:Value} (hA:A.length=n) (h:B[k]?=some v):(A++(B++C))[n+k]?=some v:=by
 subst hA
 have hk:=(List.getElem?_eq_some_iff.1 h).1
 rw[List.getElem?_append_right (by omega),Nat.add_sub_cancel_left,List.getElem?_append_left hk,h]
theorem splice_inF {A X R vs:List Value} {n:Nat} (hA:A.length=n) (h:vs.length=X.length):splice (A++(X++R)) n vs=A++(vs++R):=by
 subst hA
 unfold splice
 rw[List.take_left,h,← List.drop_drop,List.drop_left,List.drop_left]
theorem spoil_step (n:Nat) (hT:SpoilOK n):SpoilOK (n+1):=by
 intro wb w l K M a c mark hn hmk hK hw hnew
 refine enterB (args:=[.slice a l.length c,str mark]) Tryz.func27 rfl Tryz.ntmps27 (congrArg Array.toList Tryz.results27) (by kernel_rfl) (by simp) hw ?_
 refine sp ?_
 rcases (OwS_iff _ _ _ _).1 hK with ⟨rfl,rfl,rfl,rfl⟩|⟨b,cap,cs,xs,K0,rfl,rfl,h2,h3,h4,h5,h6,h7,h8⟩
 ·rw[Vb]
  refine sp ?_
  refine loopW (G:=Nat) (fun _=>SpE wb ([]++M)) (fun i=>i) 0 ([]++M) (fun w hw=>hw) (by kernel_rfl) ⟨rfl,rfl,rfl,rfl,rfl⟩ ?_
  rintro i wb e ds L ⟨rfl,rfl,rfl,h6,h7⟩
  simp (disch:=omega) only[push_cast,qE,h6,h7]
  rw[Vc]
  simp (disch:=omega) only[push_cast,qE,h6,h7]
  refine cdD (fun hlt=>by exfalso; omega) (fun hge=>?_)
  simp (disch:=omega) only[push_cast,qE,h6,h7]
  exact fun w' hw'=>⟨[],[],hK,rfl,by simp,fun _ h=>h,hw',by simp⟩
 obtain ⟨rest,rfl⟩:∃ rest,cs=xs++rest:=⟨cs.drop (l.length * 7),by rw[← h7,List.take_append_drop]⟩
 rw[Vb]
 refine sp ?_
 refine loopW (G:=Nat) (SpI wb b rest M l c mark (cap * 7)) (fun i=>l.length - i) 0 ((b,Obj.cells (xs++rest).toArray 37 (0,0))::([]++(K0++M))) (fun w hw=>hw) (by kernel_rfl) ⟨rfl,rfl,⟨[],[],K0,[],xs,rfl,rfl,by simp,fun N _=>by rw[wideL],.nil,h8,h6,by simp,fun p hp=>hnew p (by simp[hp])⟩,by omega,rfl,rfl,rfl,rfl⟩ ?_
 rintro i wb e ds L ⟨rfl,rfl,⟨ld,Kd,Kr,csd,csr,rfl,hld,hmd,hwd,k1,k2,htot,n1,n2⟩,hi,h0,h1,h6',h7'⟩
 simp (disch:=omega) only[push_cast,qE,h0,h1,h6',h7']
 rw[Vc]
 simp (disch:=omega) only[push_cast,qE,h0,h1,h6',h7']
 refine cdD (fun hlt=>?_) (fun hge=>?_)
 rotate_left
 ·obtain rfl:i=l.length:=by omega
  simp (disch:=omega) only[push_cast,qE,h0,h1,h6',h7']
  rw[List.drop_length,OwK] at k2
  obtain ⟨rfl,rfl⟩:=k2
  have hcl:csd.length=l.length * 7:=by rw[k1.len,hld]
  refine fun w' hw'=>⟨ld,(b,Obj.cells (csd++rest).toArray 37 (0,0))::Kd,(OwS_iff _ _ _ _).2 (.inr ⟨b,cap,csd++rest,csd,Kd,rfl,rfl,by omega,h3,by rw[hld]; exact h4,h5,un htot,by rw[hld,← hcl,List.take_left],k1⟩),hld,hmd,hwd,by simpa using hw',fun p hp=>?_⟩
  rcases List.mem_cons.1 hp with rfl|hp
  ·exact hnew (b,Obj.cells (xs++rest).toArray 37 (0,0)) (.head _)
  ·exact n1 p hp
 obtain ⟨x,hx⟩:∃ x,l[i]?=some x:=⟨_,qH (by omega)⟩
 have hdrop:l.drop i=x::l.drop (i+1):=by
  obtain ⟨q1,rfl⟩:=List.getElem?_eq_some_iff.1 hx
  exact List.drop_eq_getElem_cons q1
 rw[hdrop] at k2
 obtain ⟨K1,K2,ax,cx,csr',rfl,rfl,t1,t2⟩:=k2.cons_inv
 have hcl:csd.length=i * 7:=by rw[k1.len,hld]
 simp only[List.append_assoc]
 have hg:∀ k v,(x.cells ax cx)[k]?=some v→(csd++(x.cells ax cx++(csr'++rest)))[i * 7+k]?=some v:=fun k v h=>get_midF hcl h
 have hlx:(x.cells ax cx).length=7:=rfl
 have hlen:i * 7+7≤(csd++(x.cells ax cx++(csr'++rest))).length:=by simp only[qA,hlx,hcl]; omega
 have hszx:SizeOf.sizeOf x.sub≤n:=by
  have q1:=List.sizeOf_lt_of_mem (List.mem_of_getElem? hx)
  have q2:SizeOf.sizeOf x.sub < SizeOf.sizeOf x:=by cases x; simp only[Fld.sub,Fld.mk.sizeOf_spec]; omega
  omega
 simp (disch:=omega) only[push_cast,qE,h0,h1,h6',h7']
 rw[Vb]
 simp (disch:=omega) only[push_cast,qE,h0,h1,h6',h7']
 refine lOn Shp.eq mem0 (hg 6 _ rfl) ?_
 simp (disch:=omega) only[push_cast,qE,h0,h1,h6',h7']
 have hKb:∀ p∈K1++((b,Obj.cells (csd++(x.cells ax cx++(csr'++rest))).toArray 37 (0,0))::(Kd++(K2++M))),wb.heap.size≤p.1:=fun p hp=>by
  simp only[List.mem_append,qM] at hp
  rcases hp with hp|rfl|hp|hp|hp
  ·exact n2 p (qL _ hp)
  ·exact hnew (b,Obj.cells (xs++rest).toArray 37 (0,0)) (.head _)
  ·exact n1 p hp
  ·exact n2 p (qR _ hp)
  ·exact hnew p (qR _ hp)
 have pm:∀ (X:Own) (y:Nat×Obj),(y::(Kd++(X++(K2++M)))).Perm (X++(y::(Kd++(K2++M)))):=fun X y=>((List.perm_append_comm_assoc Kd X _).cons y).trans List.perm_middle.symm
 refine callV en_27 (callX_base (fun w' hw'=>hT wb w' x.sub K1 _ ax cx mark hszx hmk t1.toS (hw'.perm (pm K1 _)) hKb) ?_)
 rintro e' w' ⟨rfl,l2,K3,q1,q2,q3,q6,q4,q5⟩
 refine ⟨_,(b,Obj.cells (csd++(x.cells ax cx++(csr'++rest))).toArray 37 (0,0))::(Kd++(K3++(K2++M))),rfl,q4.perm (pm K3 _).symm,?_⟩
 simp (disch:=omega) only[push_cast,qE,h0,h1,h6',h7']
 refine drawTT 19 (by kernel_rfl) (by kernel_rfl) mixed (by kernel_rfl) rfl rfl ?_
 simp (disch:=omega) only[push_cast,qE,h0,h1,h6',h7']
 refine lOn Shp.eq mem0 (hg 1 _ rfl) ?_
 simp (disch:=omega) only[push_cast,qE,h0,h1,h6',h7']
 refine lOn Shp.eq mem0 (hg 6 _ rfl) ?_
 simp (disch:=omega) only[push_cast,qE,h0,h1,h6',h7']
 refine stX 0 rfl Siz.eq rfl rfl (by simp[qC]) hlen ?_
 rw[List.set_cons_zero,splice_inF hcl (by simp[hlx])]
 simp (disch:=omega) only[push_cast,qE,h0,h1,h6',h7']
 obtain ⟨y,hy⟩:∃ y:Fld,y=.mk mark (!x.nl) 99 i 0 0 l2:=⟨_,rfl⟩
 refine ⟨i+1,_,fun w hw=>hw,⟨rfl,rfl,⟨ld++[y],Kd++K3,K2,csd++y.cells ax cx,csr',?_,by simp[hld],fun f hf=>?_,fun N hN=>?_,OwK.append (OwK.single (f:=y) (OwS.toF (by rw[hy]; exact q1) (by rw[hy]; exact hmk))) k1,t2,?_,fun p hp=>?_,fun p hp=>n2 p (qR _ hp)⟩,by omega,h0,h1,h6',uu⟩,by omega⟩
 ·rw[hy]; simp[Fld.cells,Fld.nm,Fld.nl,Fld.k,Fld.wd,Fld.id,Fld.ix,Fld.sub,q2]
 ·rcases List.mem_append.1 hf with hf|hf
  ·exact hmd f hf
  ·rw[List.mem_singleton.1 hf,hy]; rfl
 ·have h9:=(wideF_iff _ _).1 (wideL_get hN hx)
  rw[wideL_append,hwd N hN,wideL,wideL,hy,wideF,q6 N h9.2,q2]
  simp[h9.1]
 ·rw[← htot]; simp only[qA,hlx]; rw[show (y.cells ax cx).length=7 from rfl]; omega
 ·rcases List.mem_append.1 hp with hp|hp
  ·exact n1 p hp
  ·exact q5 p hp
theorem spoil_all:∀ n,SpoilOK n:=by
 intro n
 induction n with
 | zero =>
  intro wb w l K M a c mark hn
  cases l<;>simp at hn
 | succ n ih=>exact spoil_step n ih
theorem spoil_walk (wb w:World) (l:List Fld) (K M:Own) (a:Option Addr) (c:Nat) (mark:List UInt8) (hmk:mark.length≤9223372036854775807) (hK:OwS l K a c) (hw:Sy wb (K++M) w) (hnew:∀ p∈K++M,wb.heap.size≤p.1) :
 Calls Tryz.prog 27 #[.slice a l.length c,str mark] w (fun e w'=>e=.returned (.tuple #[])∧∃ (l':List Fld) (K':Own),OwS l' K' a c∧l'.length=l.length∧(∀ f∈l',f.nm=mark)∧(∀ N,wideL N l=true→wideL N l'=true)∧Sy wb (K'++M) w'∧∀ p∈K',wb.heap.size≤p.1) :=
 spoil_all _ wb w l K M a c mark (Nat.le_refl _) hmk hK hw hnew
def RowK (wb:World) (e:TypeId) (size:Nat) (P0:Own→Prop) (L M:Own) (v:Value) (n:Nat) (xs:List Value):Prop :=
 (xs.length=n * size∧∃ (b c:Nat) (cs:List Value),v=.slice (some ⟨b,0,none⟩) n c∧L=(b,Obj.cells cs.toArray e (0,0))::M∧n≤c∧c≤maxLen∧c * size≤cs.length∧cs.take (n * size)=xs∧∀ cs':List Value,cs'.length=cs.length→cs'.take (n * size)=xs→P0 [(b,Obj.cells cs'.toArray e (0,0))]) ∨
  (∃ M0:Own,P0 M0∧RowO wb e size L (M0++M) v n xs)
theorem RowK.over {wb:World} {e:TypeId} {size n:Nat} {P0:Own→Prop} {L M:Own} {v:Value} {xs:List Value} (p:Nat×Obj) (h:RowK wb e size P0 L M v n xs):∃ L'',RowK wb e size P0 L'' (p::M) v n xs∧∀ w,Sy wb (p::L) w→Sy wb L'' w:=by
 rcases h with ⟨h0,b,c,cs,rfl,rfl,h1⟩|⟨M0,h1,h2⟩
 ·exact ⟨_,.inl ⟨h0,b,c,cs,rfl,rfl,h1⟩,fun w hw=>hw.perm (List.Perm.swap _ _ _)⟩
 ·obtain ⟨L2,q1,q2⟩:=RowO.over p h2
  obtain ⟨R,rfl,hR⟩:=RowO.unframe q1
  exact ⟨R++(M0++p::M),.inr ⟨M0,h1,RowO.frame hR⟩,fun w hw=>(q2 w hw).perm (List.Perm.append_left R List.perm_middle.symm)⟩
theorem RowK.shrink {wb:World} {e:TypeId} {size n:Nat} {P0:Own→Prop} {L M:Own} {v:Value} {xs:List Value} (p:Nat×Obj) (h:RowK wb e size P0 L (p::M) v n xs) (hp:wb.heap.size≤p.1):∃ L'',RowK wb e size P0 L'' M v n xs∧∀ w,Sy wb L w→Sy wb L'' w:=by
 rcases h with ⟨h0,b,c,cs,rfl,rfl,h1⟩|⟨M0,h1,h2⟩
 ·exact ⟨_,.inl ⟨h0,b,c,cs,rfl,rfl,h1⟩,fun w hw=>hw.mid [_] [p] (fun q hq=>by rw[List.mem_singleton.1 hq]; exact hp)⟩
 ·obtain ⟨R,rfl,hR⟩:=RowO.unframe h2
  refine ⟨R++(M0++M),.inr ⟨M0,h1,RowO.frame hR⟩,fun w hw=>?_⟩
  rw[← List.append_assoc] at hw ⊢
  exact hw.mid (R++M0) [p] (fun q hq=>by rw[List.mem_singleton.1 hq]; exact hp)
theorem RowK.new {wb:World} {e:TypeId} {size n:Nat} {P0:Own→Prop} {L M:Own} {v:Value} {xs:List Value} (h:RowK wb e size P0 L M v n xs) (hP:∀ M0,P0 M0→∀ p∈M0,wb.heap.size≤p.1) (hM:∀ p∈M,wb.heap.size≤p.1):∀ p∈L,wb.heap.size≤p.1:=by
 rcases h with ⟨h0,b,c,cs,rfl,rfl,h1⟩|⟨M0,h1,h2⟩
 ·intro p hp
  rcases List.mem_cons.1 hp with rfl|hp
  ·exact hP _ (h1.2.2.2.2 cs rfl h1.2.2.2.1) _ (.head _)
  ·exact hM p hp
 ·refine RowO.new h2 fun p hp=>?_
  rcases List.mem_append.1 hp with hp|hp
  ·exact hP _ h1 p hp
  ·exact hM p hp
theorem RowK.ends {wb:World} {e:TypeId} {size n:Nat} {P0:Own→Prop} {L M:Own} {v:Value} {xs:List Value} (h:RowK wb e size P0 L M v n xs):∃ M0,P0 M0∧∀ w,Sy wb L w→Sy wb (M0++M) w:=by
 rcases h with ⟨h0,b,c,cs,rfl,rfl,h1,h2,h3,h4,h5⟩|⟨M0,h1,h2⟩
 ·exact ⟨_,h5 cs rfl h4,fun w hw=>hw⟩
 ·obtain ⟨h0,⟨q1,q2,q3⟩|⟨b,cap,cs,q1,q2,q3,_⟩⟩:=h2
  ·exact ⟨M0,h1,fun w hw=>by rw[← q3]; exact hw⟩
  ·refine ⟨M0,h1,fun w hw=>?_⟩
   rw[q2] at hw
   exact hw.left (A:=[_]) (fun p hp=>by rw[List.mem_singleton.1 hp]; exact q3)
theorem appendK {P:Program} {wb:World} {L M:Own} {P0:Own→Prop} {t ty e:TypeId} {z:Value} {size bytes n m c:Nat} {v:Value} {xs news:List Value} {a:Addr} {K:Value→World→Own→Prop}
 (ht:P.underlying t=some (.slice e)) (hi:(P.info? e).map (fun i=>(i.zero,i.size,i.bytes))=some (some z,size,bytes)) (hzs:z.cells.size=size) (hsz0:0 < size) (hm:0 < m)
 (hrow:RowK wb e size P0 L M v n xs) (hl:news.length=m * size) (hr:CanRead wb L a news) (h1:∀ u∈news,u.oneCell'=true) (h63:n+m≤maxLen) (hbytes:(n+m) * bytes≤140737488355328)
 (hK:∀ v' L',RowK wb e size P0 L' M v' (n+m) (xs++news)→K v' wb L'):ValX P (Builtin.append_ #[t,t] ty #[v,.slice (some a) m c]) wb L (tag K):=by
 rcases hrow with ⟨hxl,b,c0,cs,rfl,rfl,hnc,hcm,hcl,hct,hP⟩|⟨M0,hP,hro⟩
 ·obtain ⟨inf,hinf,i1,i2,i3⟩:∃ inf,P.info? e=some inf∧inf.zero=some z∧inf.size=size∧inf.bytes=bytes:=by
   cases hh:P.info? e with
   | none=>rw[hh] at hi; cases hi
   | some inf=>rw[hh] at hi; simp at hi; exact ⟨inf,rfl,hi.1,hi.2.1,hi.2.2⟩
  subst i2; subst i3
  have h63':((n+m:Nat):Int)≤9223372036854775807:=by simp only[maxLen] at h63; omega
  intro w hw
  have hnews:=hr w hw
  have hbo:=hw.own b _ (List.mem_cons_self ..)
  have hcells:∀ j u,xs[j]?=some u→w.cell? ((⟨b,0,none⟩:Addr).add j)=some u:=by
   intro j u hu
   have hadd:(⟨b,0,none⟩:Addr).add j=⟨b,j,none⟩:=by unfold Addr.add; split<;>simp_all
   rw[hadd]
   simp only[World.cell?,hbo]
   rw[← hct,List.getElem?_take] at hu
   split at hu
   ·simpa using hu
   ·cases hu
  rcases Nat.lt_or_ge c0 (n+m) with hg|hroom
  ·have hrun:=run_append_grow (P:=P) w t ty e inf z ht hinf i1 ⟨b,0,none⟩ n c0 xs hxl hcells a m c news hl hnews hg h63' (growslice_fits hg hbytes)
   have hge:=grownCap_ge w (n+m) c0 e
   have hle:=grownCap_le_maxLen w (n+m) c0 e h63
   refine ⟨_,_,wb,(w.heap.size,.cells (xs.toArray++news.toArray++Builtin.zeroCells z.cells (grownCap w (n+m) c0 e - (n+m))) e)::(b,Obj.cells cs.toArray e (0,0))::M,hrun,hw.drewn.new _,hK _ _ (.inr ⟨[(b,Obj.cells cs.toArray e (0,0))],hP cs rfl hct,⟨by simp[hxl,hl,Nat.add_mul],.inr ⟨w.heap.size,grownCap w (n+m) c0 e,xs++news++(Builtin.zeroCells z.cells (grownCap w (n+m) c0 e - (n+m))).toList,rfl,?_,hw.size,hge,hle,?_,?_⟩⟩⟩)⟩
   ·simp
   ·rw[qA,qA,hxl,hl,Array.length_toList,zeroCells_length,hzs,← Nat.add_mul,← Nat.add_mul,Nat.add_sub_cancel' hge]
   ·rw[Nat.add_mul,← hxl,← hl,← qA,List.take_left]
  ·have hfit:n * inf.size+news.length≤cs.length:=by rw[hl,← Nat.add_mul]; exact Nat.le_trans (Nat.mul_le_mul_right _ hroom) hcl
   have hrun:=run_append_room (P:=P) w t ty e inf ht hinf b n c0 cs.toArray hbo a m c news hl hnews h1 hroom (un hfit)
   have hlen2:(xs++news++cs.drop (n * inf.size+news.length)).length=cs.length:=by
    simp only[qA,List.length_drop,hxl]; omega
   refine ⟨_,_,wb,(b,.cells (xs++news++cs.drop (n * inf.size+news.length)).toArray e (0,0))::M,hrun,?_,hK _ _ (.inl ⟨by simp[hxl,hl,Nat.add_mul],b,c0,xs++news++cs.drop (n * inf.size+news.length),rfl,rfl,hroom,hcm,by rw[hlen2]; exact hcl,?_,fun cs' q1 q2=>hP cs' (by rw[q1,hlen2]) ?_⟩)⟩
   ·have h2:=hw.set (i:=0) (b:=b) (o:=.cells cs.toArray e (0,0)) (.cells (xs++news++cs.drop (n * inf.size+news.length)).toArray e (0,0)) (by simp)
    simp only[List.set_cons_zero] at h2
    have h3:w.setRow b (cs.toArray.toList.take (n * inf.size)++news++cs.toArray.toList.drop (n * inf.size+news.length)).toArray={ w with heap:=w.heap.setIfInBounds b (.cells (xs++news++cs.drop (n * inf.size+news.length)).toArray e (0,0)) }:=by
     unfold World.setRow
     congr 1
     apply Array.ext_getElem?
     intro j
     rw[Array.getElem?_modify,Array.getElem?_setIfInBounds]
     have hlt:=(Array.getElem?_eq_some_iff.1 hbo).1
     split
     ·rename_i hj; subst hj; rw[hbo]; simp[hct,hlt]
     ·rfl
    rw[h3]; exact h2
   ·rw[Nat.add_mul,← hxl,← hl,← qA,List.take_left]
   ·have:cs'.take (n * inf.size)=(cs'.take ((n+m) * inf.size)).take (n * inf.size):=by
     rw[List.take_take,Nat.min_eq_left (Nat.mul_le_mul_right _ (Nat.le_add_right _ _))]
    rw[this,q2,← hxl,List.take_left]
 ·exact appendI ht hi hzs hro hl hr h1 h63 hbytes (fun v' L' h _=>hK v' L' (.inr ⟨M0,hP,h⟩))
theorem RowK.reads {wb:World} {e ty:TypeId} {size n:Nat} {P0:Own→Prop} {L M:Own} {v:Value} {xs vs:List Value} {b:Nat} (h:RowK wb e size P0 L ((b,Obj.cells vs.toArray ty (0,0))::M) v n xs):CanRead wb L ⟨b,0,none⟩ vs:=by
 refine CanRead.of_own (e:=ty) (cs:=vs) (n:=vs.length) ?_ rfl (List.take_length ..)
 rcases h with ⟨h0,b0,c,cs,rfl,rfl,h1⟩|⟨M0,h1,h2⟩
 ·exact .tail _ (.head _)
 ·exact RowO.mem h2 (qR _ (.head _))
structure GwI (w0:World) (b:Nat) (cs xs:List Value) (M:Own) (l:List Fld) (c:Nat) (mark:List UInt8) (i:Nat) (wb:World) (e:Env) (ds:List Deferred) (L:Own):Prop where
 hw:wb=w0
 hds:ds=[]
 o:∃ (Kd Kr:Own) (csd csr:List Value),L=(b,Obj.cells cs.toArray 37 (0,0))::(Kd++(Kr++M))∧csd++csr=xs∧OwK (l.take i) Kd csd∧OwK (l.drop i) Kr csr∧(∀ p∈Kd,w0.heap.size≤p.1)∧∀ p∈Kr,w0.heap.size≤p.1
 hi:i≤l.length
 h0:e 0=.slice (some ⟨b,0,none⟩) l.length c
 h1:e 1=str mark
 h8:e 8=i64 l.length
 h9:e 9=i64 i
structure GwE (w0:World) (KM:Own) (mark:List UInt8) (wb:World) (e:Env) (ds:List Deferred) (L:Own):Prop where
 hw:wb=w0
 hds:ds=[]
 o:L=KM
 h0:e 0=.slice none 0 0
 h1:e 1=str mark
 h8:e 8=i64 0
 h9:e 9=i64 0
structure Gw2I (w0:World) (mark:List UInt8) (P0:Own→Prop) (M:Own) (n0:Nat) (k:Nat) (wb:World) (e:Env) (ds:List Deferred) (L:Own):Prop where
 hw:wb=w0
 hds:ds=[]
 o:∃ (v:Value) (xs:List Value),e 5=v∧RowK w0 37 7 P0 L M v (n0+k) xs
 hk:k≤20
 h1:e 1=str mark
 h6:e 6=i64 k
def GrowFOK (n:Nat):Prop:=∀ (wb w:World) (l:List Fld) (K M:Own) (a:Option Addr) (c:Nat) (mark:List UInt8),SizeOf.sizeOf l≤n→mark.length≤9223372036854775807→OwS l K a c→l.length≤1048576→wideL 1048576 l=true→Sy wb (K++M) w→(∀ p∈K++M,wb.heap.size≤p.1) →
 Calls Tryz.prog 28 #[.slice a l.length c,str mark] w (fun e w'=>e=.returned (.tuple #[])∧∃ K':Own,OwS l K' a c∧Sy wb (K'++M) w'∧∀ p∈K',wb.heap.size≤p.1)
theorem growF_step (n:Nat) (hT:GrowFOK n):GrowFOK (n+1):=by
 intro wb w l K M a c mark hn hmk hK hlen hwd hw hnew
 refine enterB (args:=[.slice a l.length c,str mark]) Tryz.func28 rfl Tryz.ntmps28 (congrArg Array.toList Tryz.results28) (by kernel_rfl) (by simp) hw ?_
 refine sp ?_
 rcases (OwS_iff _ _ _ _).1 hK with ⟨rfl,rfl,rfl,rfl⟩|⟨b,cap,cs,xs,K0,rfl,rfl,h2,h3,h4,hcap,htt,h7,h8⟩
 ·rw[Vb]
  refine sp ?_
  refine loopW (G:=Nat) (fun _=>GwE wb ([]++M) mark) (fun i=>i) 0 ([]++M) (fun w hw=>hw) (by kernel_rfl) ⟨rfl,rfl,rfl,rfl,rfl,rfl,rfl⟩ ?_
  rintro i wb e ds L ⟨rfl,rfl,hLM,h0,h1,h8,h9⟩
  obtain rfl:M=L:=hLM.symm
  simp (disch:=omega) only[push_cast,qE,h0,h1,h8,h9]
  rw[Vc]
  simp (disch:=omega) only[push_cast,qE,h0,h1,h8,h9]
  refine cdD (fun hlt=>by exfalso; omega) (fun hge=>?_)
  simp (disch:=omega) only[push_cast,qE,h0,h1,h8,h9]
  rw[Vb]
  simp (disch:=omega) only[push_cast,qE,h0,h1,h8,h9]
  refine loopW (G:=Nat) (Gw2I wb mark (fun M0=>M0=[]) M 0) (fun k=>20 - k) 0 _ (fun w hw=>hw) (by kernel_rfl) ⟨rfl,rfl,⟨.slice none 0 0,[],rfl,.inr ⟨[],rfl,by simp,.inl ⟨rfl,rfl,rfl⟩⟩⟩,by omega,h1,rfl⟩ ?_
  clear h0 h1 h8 h9 e
  rintro k wb e ds L ⟨rfl,rfl,⟨v,xs',h5,hrow⟩,hk,h1,h6⟩
  have hLn:=hrow.new (fun M0 h p hp=>by rw[h] at hp; cases hp) (fun p hp=>hnew p (un hp))
  simp (disch:=omega) only[push_cast,qE,h1,h5,h6]
  rw[Vc]
  simp (disch:=omega) only[push_cast,qE,h1,h5,h6]
  refine cdD (fun hlt=>?_) (fun hge=>?_)
  ·simp (disch:=omega) only[push_cast,qE,h1,h5,h6]
   rw[Vb]
   simp (disch:=omega) only[push_cast,qE,h1,h5,h6]
   refine bs_24_1 (newI fun b9 hb9 hn9=>?_)
   simp (disch:=omega) only[push_cast,qE,h1,h5,h6]
   obtain ⟨L2,hrow2,hs2⟩:=hrow.over (b9,Obj.cells #[str mark,.bool false,i64 0,i64 0,i64 0,i64 0,.slice none 0 0] 37 (0,0))
   refine valX_weak hs2 (appendK un_24 infoFldC rfl (by decide) (by decide) (m:=1) (news:=[str mark,.bool false,i64 0,i64 0,i64 0,i64 0,.slice none 0 0]) hrow2 rfl ?_ (by simp[qC]) (by simp only[maxLen]; omega) (by omega) (fun v5 L5 hrow5=>?_))
   ·exact hrow2.reads
   simp (disch:=omega) only[push_cast,qE,h1,h5,h6]
   obtain ⟨L6,hrow6,hs6⟩:=hrow5.shrink _ hb9
   refine ⟨k+1,L6,hs6,⟨rfl,rfl,⟨_,_,rfl,hrow6⟩,by omega,h1,uu⟩,by omega⟩
  ·simp (disch:=omega) only[push_cast,qE,h1,h5,h6]
   obtain ⟨M0,hM0,hs0⟩:=hrow.ends
   obtain rfl:=hM0
   exact fun w' hw'=>⟨[],hK,hs0 _ hw',by simp⟩
 obtain ⟨rest,rfl⟩:∃ rest,cs=xs++rest:=⟨cs.drop (l.length * 7),by rw[← h7,List.take_append_drop]⟩
 rw[Vb]
 refine sp ?_
 refine loopW (G:=Nat) (GwI wb b (xs++rest) xs M l c mark) (fun i=>l.length - i) 0 ((b,Obj.cells (xs++rest).toArray 37 (0,0))::([]++(K0++M))) (fun w hw=>hw) (by kernel_rfl) ⟨rfl,rfl,⟨[],K0,[],xs,rfl,rfl,by rw[List.take_zero]; exact .nil,h8,by simp,fun p hp=>hnew p (by simp[hp])⟩,by omega,rfl,rfl,rfl,rfl⟩ ?_
 rintro i wb e ds L ⟨rfl,rfl,⟨Kd,Kr,csd,csr,rfl,rfl,k1,k2,n1,n2⟩,hi,h0,h1,h8',h9'⟩
 have hKM:∀ p∈Kd++M,wb.heap.size≤p.1:=(nA n1 (fun p hp=>hnew p (qR _ hp)))
 simp (disch:=omega) only[push_cast,qE,h0,h1,h8',h9']
 rw[Vc]
 simp (disch:=omega) only[push_cast,qE,h0,h1,h8',h9']
 refine cdD (fun hlt=>?_) (fun hge=>?_)
 ·obtain ⟨x,hx⟩:∃ x,l[i]?=some x:=⟨_,qH (by omega)⟩
  have hdrop:l.drop i=x::l.drop (i+1):=by
   obtain ⟨q1,rfl⟩:=List.getElem?_eq_some_iff.1 hx
   exact List.drop_eq_getElem_cons q1
  rw[hdrop] at k2
  obtain ⟨K1,K2,ax,cx,csr',rfl,rfl,t1,t2⟩:=k2.cons_inv
  have hcl:csd.length=i * 7:=by rw[k1.len,List.length_take]; omega
  have hg:∀ k v,(x.cells ax cx)[k]?=some v→(csd++(x.cells ax cx++csr')++rest)[i * 7+k]?=some v:=fun k v h=>by
   rw[List.append_assoc,List.append_assoc]; exact get_midF hcl h
  have hszx:SizeOf.sizeOf x.sub≤n:=by
   have q1:=List.sizeOf_lt_of_mem (List.mem_of_getElem? hx)
   have q2:SizeOf.sizeOf x.sub < SizeOf.sizeOf x:=by cases x; simp only[Fld.sub,Fld.mk.sizeOf_spec]; omega
   omega
  have hwx:=(wideF_iff _ _).1 (wideL_get hwd hx)
  simp (disch:=omega) only[push_cast,qE,h0,h1,h8',h9']
  rw[Vb]
  simp (disch:=omega) only[push_cast,qE,h0,h1,h8',h9']
  refine lOn Shp.eq mem0 (hg 6 _ rfl) ?_
  simp (disch:=omega) only[push_cast,qE,h0,h1,h8',h9']
  have hKb:∀ p∈K1++((b,Obj.cells (csd++(x.cells ax cx++csr')++rest).toArray 37 (0,0))::(Kd++(K2++M))),wb.heap.size≤p.1:=fun p hp=>by
   simp only[List.mem_append,qM] at hp
   rcases hp with hp|rfl|hp|hp|hp
   ·exact n2 p (qL _ hp)
   ·exact hnew (b,Obj.cells (csd++(x.cells ax cx++csr')++rest).toArray 37 (0,0)) (.head _)
   ·exact n1 p hp
   ·exact n2 p (qR _ hp)
   ·exact hnew p (qR _ hp)
  have pm:∀ (X:Own) (y:Nat×Obj),(y::(Kd++((X++K2)++M))).Perm (X++(y::(Kd++(K2++M)))):=fun X y=>by
   rw[List.append_assoc]; exact ((List.perm_append_comm_assoc Kd X _).cons y).trans List.perm_middle.symm
  refine callV en_28 (callX_base (fun w' hw'=>hT wb w' x.sub K1 _ ax cx mark hszx hmk t1.toS hwx.1 hwx.2 (hw'.perm (pm K1 _)) hKb) ?_)
  rintro e' w' ⟨rfl,K3,q1,q4,q5⟩
  refine ⟨_,(b,Obj.cells (csd++(x.cells ax cx++csr')++rest).toArray 37 (0,0))::(Kd++((K3++K2)++M)),rfl,q4.perm (pm K3 _).symm,?_⟩
  simp (disch:=omega) only[push_cast,qE,h0,h1,h8',h9']
  refine ⟨i+1,_,fun w hw=>hw,⟨rfl,rfl,⟨Kd++K3,K2,csd++x.cells ax cx,csr',by simp,by simp,?_,t2,fun p hp=>?_,fun p hp=>n2 p (qR _ hp)⟩,by omega,h0,h1,h8',uu⟩,by omega⟩
  ·rw[List.take_add_one,hx,Option.toList_some]
   exact OwK.append (OwK.single (q1.toF t1.nm_le)) k1
  ·rcases List.mem_append.1 hp with hp|hp
   ·exact n1 p hp
   ·exact q5 p hp
 ·obtain rfl:i=l.length:=by omega
  rw[List.drop_length,OwK] at k2
  obtain ⟨rfl,rfl⟩:=k2
  rw[List.take_length] at k1
  have hcl:=k1.len
  simp only[List.append_nil,List.nil_append] at *
  simp (disch:=omega) only[push_cast,qE,h0,h1,h8',h9']
  rw[Vb]
  simp (disch:=omega) only[push_cast,qE,h0,h1,h8',h9']
  refine loopW (G:=Nat) (Gw2I wb mark (fun M0=>∃ cs':List Value,M0=[(b,Obj.cells cs'.toArray 37 (0,0))]∧cs'.length=cap * 7∧cs'.take (l.length * 7)=csd) (Kd++M) l.length) (fun k=>20 - k) 0 _ (fun w hw=>hw) (by kernel_rfl) ⟨rfl,rfl,⟨.slice (some ⟨b,0,none⟩) l.length c,csd,uu,.inl ⟨hcl,b,c,csd++rest,rfl,rfl,h2,by simp only[maxLen]; omega,by omega,by rw[Nat.add_zero,← hcl,List.take_left],fun cs' q1 q2=>⟨cs',rfl,q1.trans htt,q2⟩⟩⟩,by omega,h1,rfl⟩ ?_
  clear h0 h1 h8' h9' e
  rintro k wb e ds L ⟨rfl,rfl,⟨v,xs',h5,hrow⟩,hk,h1,h6⟩
  have hLn:=hrow.new (fun M0 ⟨cs',h,_,_⟩ p hp=>by rw[h] at hp; rw[List.mem_singleton.1 hp]; exact hnew (b,Obj.cells (csd++rest).toArray 37 (0,0)) (.head _)) hKM
  simp (disch:=omega) only[push_cast,qE,h1,h5,h6]
  rw[Vc]
  simp (disch:=omega) only[push_cast,qE,h1,h5,h6]
  refine cdD (fun hlt=>?_) (fun hge=>?_)
  ·simp (disch:=omega) only[push_cast,qE,h1,h5,h6]
   rw[Vb]
   simp (disch:=omega) only[push_cast,qE,h1,h5,h6]
   refine bs_24_1 (newI fun b9 hb9 hn9=>?_)
   simp (disch:=omega) only[push_cast,qE,h1,h5,h6]
   obtain ⟨L2,hrow2,hs2⟩:=hrow.over (b9,Obj.cells #[str mark,.bool false,i64 0,i64 0,i64 0,i64 0,.slice none 0 0] 37 (0,0))
   refine valX_weak hs2 (appendK un_24 infoFldC rfl (by decide) (by decide) (m:=1) (news:=[str mark,.bool false,i64 0,i64 0,i64 0,i64 0,.slice none 0 0]) hrow2 rfl ?_ (by simp[qC]) (by simp only[maxLen]; omega) (by omega) (fun v5 L5 hrow5=>?_))
   ·exact hrow2.reads
   simp (disch:=omega) only[push_cast,qE,h1,h5,h6]
   obtain ⟨L6,hrow6,hs6⟩:=hrow5.shrink _ hb9
   refine ⟨k+1,L6,hs6,⟨rfl,rfl,⟨_,_,rfl,hrow6⟩,by omega,h1,uu⟩,by omega⟩
  ·simp (disch:=omega) only[push_cast,qE,h1,h5,h6]
   obtain ⟨M0,hM0,hs0⟩:=hrow.ends
   obtain ⟨cs',rfl,q1,q2⟩:=hM0
   refine fun w' hw'=>⟨(b,Obj.cells cs'.toArray 37 (0,0))::Kd,(OwS_iff _ _ _ _).2 (.inr ⟨b,cap,cs',csd,Kd,rfl,rfl,h2,h3,h4,hcap,q1,q2,k1⟩),hs0 _ hw',fun p hp=>?_⟩
   rcases List.mem_cons.1 hp with rfl|hp
   ·exact hnew (b,Obj.cells (csd++rest).toArray 37 (0,0)) (.head _)
   ·exact n1 p hp
theorem growF_all:∀ n,GrowFOK n:=by
 intro n
 induction n with
 | zero =>
  intro wb w l K M a c mark hn
  cases l<;>simp at hn
 | succ n ih=>exact growF_step n ih
theorem growF_walk (wb w:World) (l:List Fld) (K M:Own) (a:Option Addr) (c:Nat) (mark:List UInt8) (hmk:mark.length≤9223372036854775807) (hK:OwS l K a c) (hl:l.length≤1048576) (hwd:wideL 1048576 l=true) (hw:Sy wb (K++M) w) (hnew:∀ p∈K++M,wb.heap.size≤p.1) :
 Calls Tryz.prog 28 #[.slice a l.length c,str mark] w (fun e w'=>e=.returned (.tuple #[])∧∃ K':Own,OwS l K' a c∧Sy wb (K'++M) w'∧∀ p∈K',wb.heap.size≤p.1) :=
 growF_all _ wb w l K M a c mark (Nat.le_refl _) hmk hK hl hwd hw hnew
end Go.Proofs.YtdmdgkpjjpijdaaGreatDoor
