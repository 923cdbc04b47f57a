/- YtilejcofleeeiaaGreatDoor: walks, part 104: a value's twin, of its own memory. -/
import Derived.Test.YtilejcofleeeiaaGreatDoorW37
import Derived.Laws.MakeOwn
namespace Go.Proofs.YtilejcofleeeiaaGreatDoor
open Go Go.K
open Nat renaming reduceEqDiff → qE
open Go.Value renaming oneCell' → qC
open List renaming mem_append_right → qR, mem_append_left → qL, length_cons → qN, length_append → qA, getElem?_eq_getElem → qH
set_option maxRecDepth 100000
set_option linter.unusedVariables false
set_option linter.unusedSimpArgs false
set_option maxHeartbeats 4000000
abbrev OwL (ls:List Vl) (K:Own) (a:Option Addr) (c:Nat):Prop:=OwV (.mk false 0 [] ls) K a c
def TwinsOK (n:Nat):Prop:=∀ (w:World) (lo:Nat) (ls:List Vl) (a:Option Addr) (c:Nat),SizeOf.sizeOf ls≤n→lo≤w.heap.size→RdV w lo a ls→ls.length≤c→c≤9223372036854775807→wL ls≤2147483647 →
 Calls Tryz.prog 26 #[.slice a ls.length c] w (RetsN w (fun v M=>∃ a' c',v=.slice a' ls.length c'∧OwL ls M a' c'))
def TwinOK (n:Nat):Prop:=∀ (w:World) (lo:Nat) (v:Vl) (a:Option Addr) (c:Nat),SizeOf.sizeOf v≤n→lo≤w.heap.size→VAt w lo v a c→wV v≤2147483647 →
 Calls Tryz.prog 8 #[.agg (v.cells a c).toArray] w (RetsN w (fun u M=>∃ a' c',u=.agg (v.cells a' c').toArray∧OwV v M a' c'))
theorem twin_step (n:Nat) (hT:TwinsOK n):TwinOK (n+1):=by
 intro w lo v a c hn hlo hV hwt
 have hwv:=wV_eq v
 refine enterT (args:=[.agg (v.cells a c).toArray]) Tryz.func8 rfl Tryz.ntmps8 (congrArg Array.toList Tryz.results8) (by kernel_rfl) (by simp) (Sy.refl w) ?_
 simp (disch:=omega) only[push_cast,qE,Vl.cells]
 refine newI (fun b1 hb1 hn1=>?_)
 simp (disch:=omega) only[push_cast,qE,Vl.cells]
 refine newI (fun b2 hb2 hn2=>?_)
 simp (disch:=omega) only[push_cast,qE,Vl.cells]
 have hL:∀ x y:Obj,∀ p∈[(b2,x),(b1,y)],w.heap.size≤p.1:=fun x y p hp=>by
  simp only[List.mem_cons,List.mem_nil_iff,or_false] at hp
  rcases hp with rfl|rfl
  ·exact hb2
  ·exact hb1
 refine lOn Shp.eq mem1 rfl ?_
 refine sp ?_
 have hsz:SizeOf.sizeOf v.ls≤n:=by cases v; simp only[Vl.ls,Vl.mk.sizeOf_spec] at hn ⊢; omega
 refine callV en_26 (callX_newR (fun w' hw'=>hT w' lo v.ls a c hsz (Nat.le_trans hlo hw'.size) (hV.sy hlo hw' (hL _ _)).hr hV.hc hV.hc2 (by omega)) (fun u M hM hMn hu=>?_))
 obtain ⟨a',c',rfl,hO⟩:=hu
 refine sp ?_
 refine sXa 1 rfl Siz.eq rfl rfl ?_
 refine sp ?_
 refine lAg Shp.eq mem1 rfl rfl ?_
 refine sp ?_
 refine sXa 0 rfl Siz.eq rfl rfl ?_
 refine sp ?_
 refine lAg Shp.eq mem0 rfl rfl ?_
 refine sp ?_
 refine fun w' hw'=>⟨_,M,rfl,hw'.left (A:=[_,_]) (hL _ _),hM,a',c',rfl,?_⟩
 obtain ⟨_,_,b,cs,rest,K',q1,q2,q3,q4,q5,q6⟩:=(OwV_iff _ _ _ _).1 hO
 exact (OwV_iff _ _ _ _).2 ⟨hV.ht,hV.hn,b,cs,rest,K',q1,q2,q3,q4,q5,q6⟩
theorem wL_len:∀ (l:List Vl),l.length * 16≤wL l
 | []=>by simp[wL]
 | v::l=>by
  have h1:=wL_len l
  have h2:=wV_eq v
  rw[wL,qN]; omega
theorem infoVal:(Tryz.prog.info? 29).map (fun i=>(i.zero,i.size,i.bytes))=some (some (.agg #[.bool false,.int .i64 0,.string ⟨#[]⟩,.slice none 0 0]),4,56):=by kernel_rfl
theorem makeRowX {P:Program} {wb:World} {L:Own} {t e:TypeId} {z:Value} {size bytes n:Nat} {K:Value→World→Own→Prop} (kl kc:IntKind) (ht:P.underlying t=some (.slice e)) (hi:(P.info? e).map (fun i=>(i.zero,i.size,i.bytes))=some (some z,size,bytes)) (hb:bytes * n≤281474976710656) (h63:n≤9223372036854775807) {m:Int} (hm:m=(n:Int))
 (h:∀ v L',RowO wb e size L' L v 0 []→(∃ b,v=.slice (some ⟨b,0,none⟩) 0 n)→K v wb L'):ValX P (Instr.makeSlice t (.int kl 0) (.int kc m)) wb L (tag K):=by
 subst hm
 obtain ⟨inf,hinf,h1,h2,h3⟩:∃ inf,P.info? e=some inf∧inf.zero=some z∧inf.size=size∧inf.bytes=bytes:=by
  cases hh:P.info? e with
  | none=>rw[hh] at hi; cases hi
  | some inf=>rw[hh] at hi; simp at hi; exact ⟨inf,rfl,hi.1,hi.2.1,hi.2.2⟩
 subst h2; subst h3
 refine valX_new (f:=fun b=>.slice (some ⟨b,0,none⟩) 0 n) (o:=.cells (Array.mk (madeCells z.cells (n * inf.size)).toList) e (0,0)) (fun w=>?_) (newI fun b hb' hn=>?_)
 ·have:=run_make (P:=P) w t e inf z ht hinf h1 kl kc 0 (n:Int) (Int.le_refl _) (by omega) (by
   have h:((inf.bytes * n:Nat):Int)≤281474976710656:=by omega
   rwa [Int.natCast_mul] at h) (by omega)
  simpa using this
 ·refine h _ _ ⟨by simp,.inr ⟨b,n,(madeCells z.cells (n * inf.size)).toList,rfl,rfl,hb',Nat.zero_le _,by simp only[maxLen]; omega,by simp[size_madeCells],by simp⟩⟩ ⟨b,rfl⟩
structure TwI (w0:World) (ls:List Vl) (a:Option Addr) (c:Nat) (i:Nat) (wb:World) (e:Env) (ds:List Deferred) (L:Own):Prop where
 hw:wb=w0
 hds:ds=[]
 o:∃ (K:Own) (xs:List Value),RowO w0 29 4 L K (e 3) i xs∧KidV (ls.take i) K xs∧∀ p∈K,w0.heap.size≤p.1
 hi:i≤ls.length
 h0:e 0=.slice a ls.length c
 h4:e 4=i64 i
theorem twins_step (n:Nat) (hT:TwinOK n):TwinsOK (n+1):=by
 intro w lo ls a c hn hlo hr hc hc2 hwt
 have hlen:=wL_len ls
 refine enterB (args:=[.slice a ls.length c]) Tryz.func26 rfl Tryz.ntmps26 (congrArg Array.toList Tryz.results26) (by kernel_rfl) (by simp) (Sy.refl w) ?_
 refine sp ?_
 refine makeRowX .i64 .i64 un_27 infoVal (n:=ls.length+2) (by omega) (by omega) (by omega) (fun v L0 hro0 _=>?_)
 refine sp ?_
 rw[Vb]
 refine sp ?_
 refine loopW (G:=Nat) (TwI w ls a c) (fun i=>ls.length - i) 0 _ (fun w hw=>hw) (by kernel_rfl) ⟨rfl,rfl,⟨[],[],hro0,by rw[List.take_zero,KidV]; exact ⟨rfl,rfl⟩,by simp⟩,by omega,rfl,rfl⟩ ?_
 clear hro0
 rintro i wb e ds L ⟨rfl,rfl,⟨A,xs,hro,hkid,hA⟩,hil,h0,h4⟩
 obtain ⟨v0,h3⟩:∃ v0,e 3=v0:=⟨_,rfl⟩
 rw[h3] at hro
 have hLn:=hro.new hA
 simp (disch:=omega) only[push_cast,qE,h0,h3,h4]
 rw[Vc]
 simp (disch:=omega) only[push_cast,qE,h0,h3,h4]
 refine cdD (fun hlt=>?_) (fun hge=>?_)
 ·obtain ⟨x,hx⟩:∃ x,ls[i]?=some x:=⟨_,qH (by omega)⟩
  have hszx:SizeOf.sizeOf x≤n:=by
   have h1:=List.sizeOf_lt_of_mem (List.mem_of_getElem? hx)
   omega
  have hwx:wV x≤2147483647:=by
   have q1:=wL_take hx
   have q2:=wL_take_le ls (i+1)
   omega
  obtain ⟨b,off,rfl,hb⟩:∃ b off,a=some ⟨b,off,none⟩∧b < lo:=by
   obtain ⟨f0,l0,rfl⟩:∃ f l',ls=f::l':=List.exists_cons_of_ne_nil (by rintro rfl; simp at hx)
   exact hr.some_of
  obtain ⟨xa,xc,x1,x2,x3⟩:=hr.get i hx
  simp (disch:=omega) only[push_cast,qE,h0,h3,h4]
  rw[Vb]
  simp (disch:=omega) only[push_cast,qE,h0,h3,h4]
  refine ldAggF Shp.eq x2 rfl (out_of (fun p hp=>Nat.lt_of_lt_of_le (Nat.lt_of_lt_of_le x1 hlo) (hLn p hp))) ?_
  simp (disch:=omega) only[push_cast,qE,h0,h3,h4,Vl.cells]
  refine callV en_8 (cNw (fun w' hw'=>hT w' lo x xa xc hszx (Nat.le_trans hlo hw'.size) (x3.sy hlo hw' hLn) hwx) (fun u M hM hMn hS=>?_))
  obtain ⟨a2,c2,rfl,hO⟩:=hS
  simp (disch:=omega) only[push_cast,qE,h0,h3,h4,Vl.cells]
  refine bs_27_1 (newI fun b9 hb9 hn9=>?_)
  simp (disch:=omega) only[push_cast,qE,h0,h3,h4]
  obtain ⟨R,rfl,hR⟩:=RowO.unframe hro
  refine valX_weak (L':=R++((qb3 b9 x.nu x.num x.tx a2 x.ls.length c2)::(A++M))) (fun w hw=>hw.perm (by
   have p1:(M++(R++A)).Perm (R++(A++M)):=List.perm_append_comm.trans (by rw[List.append_assoc])
   exact (p1.cons _).trans List.perm_middle.symm)) (appendI un_27 infoVal rfl (m:=1) (news:=[.bool x.nu,i64 x.num,str x.tx,.slice a2 x.ls.length c2]) (RowO.frame hR) rfl (CanRead.of_own (e:=29) (b:=b9) (cs:=[.bool x.nu,i64 x.num,str x.tx,.slice a2 x.ls.length c2]) (n:=4) (by simp) rfl rfl) (by simp[qC]) (by simp only[maxLen]; omega) (by omega) (fun v5 L5 hro5 _=>?_))
  simp (disch:=omega) only[push_cast,qE,h0,h3,h4]
  obtain ⟨L6,hro6,hs6⟩:=RowO.shrink [(qb3 b9 x.nu x.num x.tx a2 x.ls.length c2)] hro5 (fun p hp=>by rw[List.mem_singleton.1 hp]; exact hb9)
  refine ⟨i+1,L6,hs6,⟨rfl,rfl,⟨A++M,_,hro6,?_,fun p hp=>?_⟩,by omega,h0,uu⟩,by omega⟩
  ·rw[List.take_add_one,hx,Option.toList_some]
   exact KidV.append (KidV.single hO) hkid
  ·rcases List.mem_append.1 hp with hp|hp
   ·exact hA p hp
   ·exact hM p hp
 ·obtain rfl:i=ls.length:=by omega
  rw[List.take_length] at hkid
  simp (disch:=omega) only[push_cast,qE,h0,h3,h4]
  refine bs_27_1 (newI fun b9 hb9 hn9=>?_)
  simp (disch:=omega) only[push_cast,qE,h0,h3,h4]
  obtain ⟨R,rfl,hR⟩:=RowO.unframe hro
  refine valX_weak (L':=R++((b9,Obj.cells #[.bool false,i64 (-7),str [],.slice none 0 0] 29 (0,0))::A)) (fun w hw=>hw.perm List.perm_middle.symm) (appendI un_27 infoVal rfl (m:=1) (news:=[.bool false,i64 (-7),str [],.slice none 0 0]) (RowO.frame hR) rfl (CanRead.of_own (e:=29) (b:=b9) (cs:=[.bool false,i64 (-7),str [],.slice none 0 0]) (n:=4) (by simp) rfl rfl) (by simp[qC]) (by simp only[maxLen]; omega) (by omega) (fun v5 L5 hro5 _=>?_))
  obtain ⟨L6,hro6,hs6⟩:=RowO.shrink [(b9,Obj.cells #[.bool false,i64 (-7),str [],.slice none 0 0] 29 (0,0))] hro5 (fun p hp=>by rw[List.mem_singleton.1 hp]; exact hb9)
  simp (disch:=omega) only[push_cast,qE,h0,h3,h4]
  refine valX_weak hs6 (bs_27_1 (newI fun b8 hb8 hn8=>?_))
  simp (disch:=omega) only[push_cast,qE,h0,h3,h4]
  obtain ⟨R2,rfl,hR2⟩:=RowO.unframe hro6
  refine valX_weak (L':=R2++((b8,Obj.cells #[.bool false,i64 (-8),str [],.slice none 0 0] 29 (0,0))::A)) (fun w hw=>hw.perm List.perm_middle.symm) (appendI un_27 infoVal rfl (m:=1) (news:=[.bool false,i64 (-8),str [],.slice none 0 0]) (RowO.frame hR2) rfl (CanRead.of_own (e:=29) (b:=b8) (cs:=[.bool false,i64 (-8),str [],.slice none 0 0]) (n:=4) (by simp) rfl rfl) (by simp[qC]) (by simp only[maxLen]; omega) (by omega) (fun v7 L7 hro7 _=>?_))
  obtain ⟨L8,hro8,hs8⟩:=RowO.shrink [(b8,Obj.cells #[.bool false,i64 (-8),str [],.slice none 0 0] 29 (0,0))] hro7 (fun p hp=>by rw[List.mem_singleton.1 hp]; exact hb8)
  have hnew:=hro8.new hA
  have hxl:=hro8.1
  obtain ⟨h9,⟨q1,q2,q3⟩|⟨b,cap,cs,rfl,q2,q3,q4,q5,q6,q7⟩⟩:=hro8
  ·omega
  simp only[maxLen] at q5
  simp (disch:=omega) only[push_cast,qE,h0,h3,h4]
  refine fun w' hw'=>⟨_,L8,rfl,hs8 w' hw',hnew,some ⟨b,0,none⟩,cap,by simp only[Int.toNat_natCast],?_⟩
  refine (OwV_iff _ _ _ _).2 ⟨by simp[Vl.tx],by simp[Vl.num],b,xs,cs.drop ((ls.length+1+1) * 4),A,rfl,?_,hkid,by simp only[Vl.ls]; omega,by omega,?_⟩
  ·rw[q2]
   have:cs=xs++(marksC++cs.drop ((ls.length+1+1) * 4)):=by
    conv=>lhs; rw[← List.take_append_drop ((ls.length+1+1) * 4) cs,q7]
    simp
   rw[← this]
  ·have h2:=congrArg List.length q7
   simp only[qA,qN,List.length_nil,List.length_take,List.length_drop] at h2 ⊢
   omega
theorem twins_all:∀ n,TwinsOK n∧TwinOK n:=by
 intro n
 induction n with
 | zero =>
  refine ⟨fun w lo ls a c hn=>?_,fun w lo v a c hn=>?_⟩
  ·cases ls<;>simp at hn
  ·cases v; simp at hn
 | succ n ih=>exact ⟨twins_step n ih.2,twin_step n ih.1⟩
theorem twin_walk (w:World) (lo:Nat) (v:Vl) (a:Option Addr) (c:Nat) (hlo:lo≤w.heap.size) (hV:VAt w lo v a c) (hw:wV v≤2147483647) :
 Calls Tryz.prog 8 #[.agg (v.cells a c).toArray] w (RetsN w (fun u M=>∃ a' c',u=.agg (v.cells a' c').toArray∧OwV v M a' c')):=(twins_all (SizeOf.sizeOf v)).2 w lo v a c (Nat.le_refl _) hlo hV hw
mutual
def TrV:Vl→Own→Option Addr→Nat→Prop
 | .mk _ num tx ls,K,a,c=>tx.length≤9223372036854775807∧(-9223372036854775808≤num∧num < 9223372036854775808)∧ls.length≤c∧c≤9223372036854775807∧(ls=[]∨∃ (b:Nat) (cs rest:List Value) (K':Own),a=some ⟨b,0,none⟩∧K=(b,Obj.cells (cs++rest).toArray 29 (0,0))::K'∧TrK ls K' cs)
def TrK:List Vl→Own→List Value→Prop
 | [],K,cs=>K=[]∧cs=[]
 | v::l,K,cs=>∃ (K1 K2:Own) (a:Option Addr) (c:Nat) (cs':List Value),K=K1++K2∧cs=v.cells a c++cs'∧TrV v K1 a c∧TrK l K2 cs'
end
theorem TrV_iff (v:Vl) (K:Own) (a:Option Addr) (c:Nat):TrV v K a c↔v.tx.length≤9223372036854775807∧(-9223372036854775808≤v.num∧v.num < 9223372036854775808)∧v.ls.length≤c∧c≤9223372036854775807∧(v.ls=[]∨∃ (b:Nat) (cs rest:List Value) (K':Own),a=some ⟨b,0,none⟩∧K=(b,Obj.cells (cs++rest).toArray 29 (0,0))::K'∧TrK v.ls K' cs):=by
 cases v; rw[TrV]; rfl
mutual
theorem OwV.tr:∀ (v:Vl) {K:Own} {a:Option Addr} {c:Nat},OwV v K a c→TrV v K a c
 | .mk nu num tx ls,K,a,c,h=>by
  rw[OwV] at h
  obtain ⟨h1,h2,b,cs,rest,K',rfl,rfl,h3,h4,h5,h6⟩:=h
  rw[TrV]
  exact ⟨h1,h2,by omega,h5,.inr ⟨b,cs,marksC++rest,K',rfl,rfl,KidV.tr ls h3⟩⟩
theorem KidV.tr:∀ (ls:List Vl) {K:Own} {cs:List Value},KidV ls K cs→TrK ls K cs
 | [],K,cs,h=>by rw[KidV] at h; rw[TrK]; exact h
 | v::l,K,cs,h=>by
  rw[KidV] at h
  obtain ⟨K1,K2,a,c,cs',rfl,rfl,h1,h2⟩:=h
  rw[TrK]
  exact ⟨K1,K2,a,c,cs',rfl,rfl,OwV.tr v h1,KidV.tr l h2⟩
end
mutual
theorem TrV.at_ {wb w:World} {L:Own} (hw:Sy wb L w):∀ (v:Vl) {K:Own} {a:Option Addr} {c:Nat},TrV v K a c→(∀ p∈K,p∈L)→VAt w w.heap.size v a c
 | .mk nu num tx ls,K,a,c,h,hK=>by
  rw[TrV] at h
  obtain ⟨h1,h2,h3,h4,rfl|⟨b,cs,rest,K',rfl,rfl,h5⟩⟩:=h
  ·exact ⟨.nil _,h3,h4,h1,h2⟩
  ·have hm:(b,Obj.cells (cs++rest).toArray 29 (0,0))∈L:=hK _ (.head _)
   exact ⟨TrK.rd hw ls h5 (fun p hp=>hK p (.tail _ hp)) (hw.lt hm) (At.of_own hw hm (by simp)),h3,h4,h1,h2⟩
theorem TrK.rd {wb w:World} {L:Own} (hw:Sy wb L w):∀ (ls:List Vl) {K:Own} {cs:List Value} {b off:Nat},TrK ls K cs→(∀ p∈K,p∈L)→b < w.heap.size→At w b off cs→RdV w w.heap.size (some ⟨b,off,none⟩) ls
 | [],K,cs,b,off,h,hK,hb,hat=>.nil _
 | v::l,K,cs,b,off,h,hK,hb,hat=>by
  rw[TrK] at h
  obtain ⟨K1,K2,a,c,cs',rfl,rfl,h1,h2⟩:=h
  have h3:=TrV.at_ hw v h1 (fun p hp=>hK p (qL _ hp))
  obtain ⟨q1,q2⟩:=At.split hat
  exact .cons hb h3.hc h3.hc2 h3.ht h3.hn q1 h3.hr (TrK.rd hw l h2 (fun p hp=>hK p (qR _ hp)) hb q2)
end
theorem TrK.len:∀ {ls:List Vl} {K:Own} {cs:List Value},TrK ls K cs→cs.length=ls.length * 4
 | [],K,cs,h=>by rw[TrK] at h; rw[h.2]; rfl
 | v::l,K,cs,h=>by
  rw[TrK] at h
  obtain ⟨K1,K2,a,c,cs',_,rfl,_,h2⟩:=h
  have:=TrK.len h2
  simp only[Vl.cells,qA,qN,List.length_nil,this]
  omega
theorem TrK.append {m:List Vl} {K2:Own} {ds:List Value} (hd:TrK m K2 ds):∀ {l:List Vl} {K1:Own} {cs:List Value},TrK l K1 cs→TrK (l++m) (K1++K2) (cs++ds)
 | [],K1,cs,h=>by rw[TrK] at h; obtain ⟨rfl,rfl⟩:=h; exact hd
 | v::l,K1,cs,h=>by
  rw[TrK] at h
  obtain ⟨A,B,a,c,cs',rfl,rfl,h1,h2⟩:=h
  rw[List.cons_append,TrK]
  exact ⟨A,B++K2,a,c,cs'++ds,by rw[List.append_assoc],by rw[List.append_assoc],h1,TrK.append hd h2⟩
theorem TrK.single {v:Vl} {K:Own} {a:Option Addr} {c:Nat} (h:TrV v K a c):TrK [v] K (v.cells a c):=by
 rw[TrK]
 exact ⟨K,[],a,c,[],by simp,by simp,h,by rw[TrK]; exact ⟨rfl,rfl⟩⟩
mutual
def turnV:Vl→Vl
 | .mk nu num tx ls=>if nu=true then .mk false 1 [] [] else match ls with
  | x::l=>.mk nu num tx (turnL (x::l))
  | []=>if tx≠[] then .mk nu num (48::tx.tail) [] else if num=0 then .mk nu 1 tx [] else .mk nu 0 tx []
def turnL:List Vl→List Vl
 | []=>[]
 | v::l=>turnV v::turnL l
end
theorem turnL_len:∀ (l:List Vl),(turnL l).length=l.length
 | []=>by rw[turnL]
 | v::l=>by rw[turnL,qN,qN,turnL_len l]
theorem turnL_append:∀ (l m:List Vl),turnL (l++m)=turnL l++turnL m
 | [],m=>by rw[turnL]; rfl
 | v::l,m=>by rw[List.cons_append,turnL,turnL,turnL_append l m]; rfl
abbrev TrL (ls:List Vl) (K:Own) (a:Option Addr) (c:Nat):Prop:=TrV (.mk false 0 [] ls) K a c
structure TnI (w0:World) (b:Nat) (rest:List Value) (M:Own) (ls:List Vl) (c:Nat) (i:Nat) (wb:World) (e:Env) (ds:List Deferred) (L:Own):Prop where
 hw:wb=w0
 hds:ds=[]
 o:∃ (Kd Kr:Own) (csd csr:List Value),L=(b,Obj.cells (csd++(csr++rest)).toArray 29 (0,0))::(Kd++(Kr++M))∧TrK (turnL (ls.take i)) Kd csd∧TrK (ls.drop i) Kr csr∧(∀ p∈Kd,w0.heap.size≤p.1)∧∀ p∈Kr,w0.heap.size≤p.1
 hi:i≤ls.length
 h0:e 0=.slice (some ⟨b,0,none⟩) ls.length c
 h2:e 2=i64 i
structure TnE (w0:World) (KM:Own) (a:Option Addr) (c:Nat) (wb:World) (e:Env) (ds:List Deferred) (L:Own):Prop where
 hw:wb=w0
 hds:ds=[]
 o:L=KM
 h0:e 0=.slice a 0 c
 h2:e 2=i64 0
def TurnOK (n:Nat):Prop:=∀ (wb w:World) (ls:List Vl) (K M:Own) (a:Option Addr) (c:Nat),SizeOf.sizeOf ls≤n→TrL ls K a c→Sy wb (K++M) w→(∀ p∈K++M,wb.heap.size≤p.1) →
 Calls Tryz.prog 10 #[.slice a ls.length c] w (fun e w'=>e=.returned (.tuple #[])∧∃ K',TrL (turnL ls) K' a c∧Sy wb (K'++M) w'∧∀ p∈K',wb.heap.size≤p.1)
theorem get_mid {A B C:List Value} {n k:Nat} {v:Value} (hA:A.length=n) (h:B[k]?=some v):(A++(B++C))[n+k]?=some v:=by
 subst hA
 have hk:=(List.getElem?_eq_some_iff.1 h).1
 rw[List.getElem?_append_right (by omega),Nat.add_sub_cancel_left,List.getElem?_append_left hk,h]
theorem splice_in {A X R vs:List Value} {n k:Nat} (hA:A.length=n) (h:k+vs.length≤X.length):splice (A++(X++R)) (n+k) vs=A++(splice X k vs++R):=by
 subst hA
 unfold splice
 have e1:(A++(X++R)).take (A.length+k)=A++X.take k:=by
  rw[List.take_append,List.take_of_length_le (by omega),Nat.add_sub_cancel_left,List.take_append_of_le_length (by omega)]
 have e2:(A++(X++R)).drop (A.length+k+vs.length)=X.drop (k+vs.length)++R:=by
  rw[Nat.add_assoc,← List.drop_drop,List.drop_left,List.drop_append_of_le_length h]
 rw[e1,e2]
 simp only[List.append_assoc]
theorem turnV_eq (v:Vl):turnV v=if v.nu=true then .mk false 1 [] [] else if v.ls≠[] then .mk v.nu v.num v.tx (turnL v.ls) else if v.tx≠[] then .mk v.nu v.num (48::v.tx.tail) [] else if v.num=0 then .mk v.nu 1 v.tx [] else .mk v.nu 0 v.tx []:=by
 obtain ⟨nu,num,tx,ls⟩:=v
 by_cases ht:tx=[]<;>cases ls<;>simp[turnV,Vl.nu,Vl.num,Vl.tx,Vl.ls,ht]
theorem turn_step (n:Nat) (hT:TurnOK n):TurnOK (n+1):=by
 intro wb w ls K M a c hn hK hw hnew
 obtain ⟨h1,h2,h3,h4,h5⟩:=(TrV_iff _ _ _ _).1 hK
 simp only[Vl.ls] at h3 h5
 refine enterB (args:=[.slice a ls.length c]) Tryz.func10 rfl Tryz.ntmps10 (congrArg Array.toList Tryz.results10) (by kernel_rfl) (by simp) hw ?_
 refine sp ?_
 rcases h5 with rfl|⟨b,cs,rest,K0,rfl,rfl,h6⟩
 ·rw[Vb]
  refine sp ?_
  refine loopW (G:=Nat) (fun _=>TnE wb (K++M) a c) (fun i=>i) 0 (K++M) (fun w hw=>hw) (by kernel_rfl) ⟨rfl,rfl,rfl,rfl,rfl⟩ ?_
  rintro i wb e ds L ⟨rfl,rfl,rfl,h0,h2'⟩
  simp (disch:=omega) only[push_cast,qE,h0,h2']
  rw[Vc]
  simp (disch:=omega) only[push_cast,qE,h0,h2']
  refine cdD (fun hlt=>by exfalso; omega) (fun hge=>?_)
  simp (disch:=omega) only[push_cast,qE,h0,h2']
  exact fun w' hw'=>⟨K,by rw[turnL]; exact hK,hw',fun p hp=>hnew p (qL _ hp)⟩
 rw[Vb]
 refine sp ?_
 refine loopW (G:=Nat) (TnI wb b rest M ls c) (fun i=>ls.length - i) 0 ((b,Obj.cells (cs++rest).toArray 29 (0,0))::([]++(K0++M))) (fun w hw=>hw) (by kernel_rfl) ⟨rfl,rfl,⟨[],K0,[],cs,rfl,by rw[List.take_zero,turnL,TrK]; exact ⟨rfl,rfl⟩,h6,by simp,fun p hp=>hnew p (by simp[hp])⟩,by omega,rfl,rfl⟩ ?_
 rintro i wb e ds L ⟨rfl,rfl,⟨Kd,Kr,csd,csr,rfl,k1,k2,n1,n2⟩,hi,h0,h2'⟩
 simp (disch:=omega) only[push_cast,qE,h0,h2']
 rw[Vc]
 simp (disch:=omega) only[push_cast,qE,h0,h2']
 refine cdD (fun hlt=>?_) (fun hge=>?_)
 rotate_left
 ·obtain rfl:i=ls.length:=by omega
  simp (disch:=omega) only[push_cast,qE,h0,h2']
  rw[List.take_length] at k1
  rw[List.drop_length,TrK] at k2
  obtain ⟨rfl,rfl⟩:=k2
  refine fun w' hw'=>⟨(b,Obj.cells (csd++rest).toArray 29 (0,0))::Kd,(TrV_iff _ _ _ _).2 ⟨by simp[Vl.tx],by simp[Vl.num],by simp only[Vl.ls,turnL_len]; exact h3,h4,.inr ⟨b,csd,rest,Kd,rfl,rfl,k1⟩⟩,by simpa using hw',fun p hp=>?_⟩
  rcases List.mem_cons.1 hp with rfl|hp
  ·exact hnew (b,Obj.cells (cs++rest).toArray 29 (0,0)) (.head _)
  ·exact n1 p hp
 obtain ⟨x,hx⟩:∃ x,ls[i]?=some x:=⟨_,qH (by omega)⟩
 have hdrop:ls.drop i=x::ls.drop (i+1):=by
  obtain ⟨q1,rfl⟩:=List.getElem?_eq_some_iff.1 hx
  exact List.drop_eq_getElem_cons q1
 rw[hdrop,TrK] at k2
 obtain ⟨K1,K2,ax,cx,csr',rfl,rfl,t1,t2⟩:=k2
 have hcl:csd.length=i * 4:=by rw[k1.len,turnL_len,List.length_take]; omega
 simp only[List.append_assoc]
 have hg:∀ k v,(x.cells ax cx)[k]?=some v→(csd++(x.cells ax cx++(csr'++rest)))[i * 4+k]?=some v:=fun k v h=>get_mid hcl h
 have hlx:(x.cells ax cx).length=4:=rfl
 have hlen:i * 4+4≤(csd++(x.cells ax cx++(csr'++rest))).length:=by simp only[qA,hlx,hcl]; omega

 have next:∀ (y:Vl) (Ky:Own) (ay:Option Addr) (cy:Nat),y=turnV x→TrV y Ky ay cy→(∀ p∈Ky,wb.heap.size≤p.1)→∀ e':Env,e' 0=.slice (some ⟨b,0,none⟩) ls.length c→e' 2=i64 ((i+1:Nat):Int)→TnI wb b rest M ls c (i+1) wb e' [] ((b,Obj.cells (csd++(y.cells ay cy++(csr'++rest))).toArray 29 (0,0))::(Kd++(Ky++(K2++M)))):=fun y Ky ay cy hy ht hKy e' g0 g2=>by
  refine ⟨rfl,rfl,⟨Kd++Ky,K2,csd++y.cells ay cy,csr',by simp,?_,t2,fun p hp=>?_,fun p hp=>n2 p (qR _ hp)⟩,by omega,g0,g2⟩
  ·rw[List.take_add_one,hx,Option.toList_some,turnL_append]
   refine TrK.append ?_ k1
   rw[turnL,turnL,← hy]
   exact TrK.single ht
  ·rcases List.mem_append.1 hp with hp|hp
   ·exact n1 p hp
   ·exact hKy p hp
 simp (disch:=omega) only[push_cast,qE,h0,h2']
 rw[Vb]
 rw[Vb]
 simp (disch:=omega) only[push_cast,qE,h0,h2']
 refine lOn Shp.eq mem0 (hg 0 (.bool x.nu) rfl) ?_
 simp (disch:=omega) only[push_cast,qE,h0,h2']
 rw[Vc]
 simp (disch:=omega) only[push_cast,qE,h0,h2']
 refine cdB (fun hnu=>?_) (fun hnu=>?_)
 ·simp (disch:=omega) only[push_cast,qE,h0,h2']
  refine stX 0 rfl Siz.eq rfl rfl (by simp[qC]) hlen ?_
  rw[show i * 4=i * 4+0 from rfl,List.set_cons_zero,splice_in hcl (by simp[hlx])]
  simp (disch:=omega) only[push_cast,qE,h0,h2']
  refine ⟨i+1,_,fun w hw=>hw,next (.mk false 1 [] []) K1 none 0 (by rw[turnV_eq,if_pos hnu]) (by rw[TrV]; exact ⟨by simp,by omega,by simp,by omega,.inl rfl⟩) (fun p hp=>n2 p (qL _ hp)) _ h0 (uu),by omega⟩
 simp (disch:=omega) only[push_cast,qE,h0,h2']
 refine lOn Shp.eq mem0 (hg 3 _ rfl) ?_
 simp (disch:=omega) only[push_cast,qE,h0,h2']
 rw[Vc]
 simp (disch:=omega) only[push_cast,qE,h0,h2']
 refine cdD (fun hls=>?_) (fun hls=>?_)
 ·simp (disch:=omega) only[push_cast,qE,h0,h2']
  refine lOn Shp.eq mem0 (hg 3 _ rfl) ?_
  simp (disch:=omega) only[push_cast,qE,h0,h2']
  have hszx:SizeOf.sizeOf x.ls≤n:=by
   have q1:=List.sizeOf_lt_of_mem (List.mem_of_getElem? hx)
   have q2:SizeOf.sizeOf x.ls < SizeOf.sizeOf x:=by cases x; simp only[Vl.ls,Vl.mk.sizeOf_spec]; omega
   omega
  obtain ⟨u1,u2,u3,u4,u5⟩:=(TrV_iff _ _ _ _).1 t1
  refine callV en_10 (callX_base (fun w' hw'=>hT wb w' x.ls K1 ((b,Obj.cells (csd++(x.cells ax cx++(csr'++rest))).toArray 29 (0,0))::(Kd++(K2++M))) ax cx hszx ((TrV_iff _ _ _ _).2 ⟨by simp[Vl.tx],by simp[Vl.num],u3,u4,u5⟩) (hw'.perm (((List.perm_append_comm_assoc _ _ _).cons _).trans List.perm_middle.symm)) (fun p hp=>?_)) ?_)
  ·simp only[List.mem_append,List.mem_cons] at hp
   rcases hp with hp|rfl|hp|hp|hp
   ·exact n2 p (qL _ hp)
   ·exact hnew (b,Obj.cells (cs++rest).toArray 29 (0,0)) (.head _)
   ·exact n1 p hp
   ·exact n2 p (qR _ hp)
   ·exact hnew p (qR _ hp)
  rintro e' w' ⟨rfl,K3,q1,q2,q3⟩
  refine ⟨_,(b,Obj.cells (csd++(x.cells ax cx++(csr'++rest))).toArray 29 (0,0))::(Kd++(K3++(K2++M))),rfl,q2.perm (List.perm_middle.trans ((List.perm_append_comm_assoc _ _ _).cons _)),?_⟩
  simp (disch:=omega) only[push_cast,qE,h0,h2']
  obtain ⟨_,_,v3,v4,v5⟩:=(TrV_iff _ _ _ _).1 q1
  have hce:(Vl.mk x.nu x.num x.tx (turnL x.ls)).cells ax cx=x.cells ax cx:=by simp[Vl.cells,Vl.nu,Vl.num,Vl.tx,Vl.ls,turnL_len]
  have hne:x.ls≠[]:=fun h=>by rw[h] at hls; simp at hls
  refine ⟨i+1,_,fun w hw=>hw,(by
   have:=next (.mk x.nu x.num x.tx (turnL x.ls)) K3 ax cx (by rw[turnV_eq,if_neg (by simp[hnu]),if_pos hne]) ((TrV_iff _ _ _ _).2 ⟨u1,u2,v3,v4,v5⟩) q3
   rw[hce] at this
   exact this _ h0 (uu)),by omega⟩
 have hl0:x.ls=[]:=List.eq_nil_of_length_eq_zero (by omega)
 simp (disch:=omega) only[push_cast,qE,h0,h2']
 refine lOn Shp.eq mem0 (hg 2 _ rfl) ?_
 simp (disch:=omega) only[push_cast,qE,h0,h2']
 rw[Vc]
 simp (disch:=omega) only[push_cast,qE,h0,h2']
 refine cdD (fun htx=>?_) (fun htx=>?_)
 ·simp (disch:=omega) only[push_cast,qE,h0,h2']
  have htl:1≤x.tx.length:=List.length_pos_iff.2 htx
  refine lOn Shp.eq mem0 (hg 2 _ rfl) ?_
  simp (disch:=omega) only[push_cast,qE,h0,h2']
  obtain ⟨u1,u2,u3,u4,_⟩:=(TrV_iff _ _ _ _).1 t1
  refine Eq.mpr (bin_str_add [48] (x.tx.drop 1) _ _ (by simp only[qN,List.length_nil,List.length_drop]; omega)) ?_
  simp (disch:=omega) only[push_cast,qE,h0,h2']
  refine stX 0 rfl Siz.eq rfl rfl (by simp[qC]) (by omega) ?_
  rw[List.set_cons_zero,splice_in hcl (by simp[hlx])]
  simp (disch:=omega) only[push_cast,qE,h0,h2']
  refine ⟨i+1,_,fun w hw=>hw,next (.mk x.nu x.num (48::x.tx.drop 1) x.ls) K1 ax cx (by rw[turnV_eq,if_neg (by simp[hnu]),if_neg (by simp[hl0]),if_pos htx,hl0,List.drop_one]) (by rw[TrV]; exact ⟨by simp only[qN,List.length_drop]; omega,u2,un u3,u4,.inl hl0⟩) (fun p hp=>n2 p (qL _ hp)) _ h0 (uu),by omega⟩
 simp (disch:=omega) only[push_cast,qE,h0,h2']
 refine lOn Shp.eq mem0 (hg 1 _ rfl) ?_
 simp (disch:=omega) only[push_cast,qE,h0,h2']
 rw[Vc]
 simp (disch:=omega) only[push_cast,qE,h0,h2']
 obtain ⟨u1,u2,u3,u4,_⟩:=(TrV_iff _ _ _ _).1 t1
 refine cdD (fun hnm=>?_) (fun hnm=>?_)
 ·simp (disch:=omega) only[push_cast,qE,h0,h2']
  refine stX 0 rfl Siz.eq rfl rfl (by simp[qC]) (by omega) ?_
  rw[List.set_cons_zero,splice_in hcl (by simp[hlx])]
  simp (disch:=omega) only[push_cast,qE,h0,h2']
  refine ⟨i+1,_,fun w hw=>hw,next (.mk x.nu 1 x.tx x.ls) K1 ax cx (by rw[turnV_eq,if_neg (by simp[hnu]),if_neg (by simp[hl0]),if_neg htx,if_pos hnm,hl0]) (by rw[TrV]; exact ⟨u1,by omega,un u3,u4,.inl hl0⟩) (fun p hp=>n2 p (qL _ hp)) _ h0 (uu),by omega⟩
 ·simp (disch:=omega) only[push_cast,qE,h0,h2']
  refine stX 0 rfl Siz.eq rfl rfl (by simp[qC]) (by omega) ?_
  rw[List.set_cons_zero,splice_in hcl (by simp[hlx])]
  simp (disch:=omega) only[push_cast,qE,h0,h2']
  refine ⟨i+1,_,fun w hw=>hw,next (.mk x.nu 0 x.tx x.ls) K1 ax cx (by rw[turnV_eq,if_neg (by simp[hnu]),if_neg (by simp[hl0]),if_neg htx,if_neg hnm,hl0]) (by rw[TrV]; exact ⟨u1,by omega,un u3,u4,.inl hl0⟩) (fun p hp=>n2 p (qL _ hp)) _ h0 (uu),by omega⟩
theorem turn_all:∀ n,TurnOK n:=by
 intro n
 induction n with
 | zero =>
  intro wb w ls K M a c hn
  cases ls<;>simp at hn
 | succ n ih=>exact turn_step n ih
theorem turn_walk (wb w:World) (v:Vl) (K M:Own) (a:Option Addr) (c:Nat) (hV:TrV v K a c) (hw:Sy wb (K++M) w) (hnew:∀ p∈K++M,wb.heap.size≤p.1) :
 Calls Tryz.prog 10 #[.slice a v.ls.length c] w (fun e w'=>e=.returned (.tuple #[])∧∃ K',TrV (.mk v.nu v.num v.tx (turnL v.ls)) K' a c∧Sy wb (K'++M) w'∧∀ p∈K',wb.heap.size≤p.1):=by
 obtain ⟨u1,u2,u3,u4,u5⟩:=(TrV_iff _ _ _ _).1 hV
 refine (turn_all _ wb w v.ls K M a c (Nat.le_refl _) ((TrV_iff _ _ _ _).2 ⟨by simp[Vl.tx],by simp[Vl.num],u3,u4,u5⟩) hw hnew).mono ?_
 rintro e w' ⟨h1,K',h2,h3,h4⟩
 obtain ⟨_,_,v3,v4,v5⟩:=(TrV_iff _ _ _ _).1 h2
 exact ⟨h1,K',(TrV_iff _ _ _ _).2 ⟨u1,u2,v3,v4,v5⟩,h3,h4⟩
end Go.Proofs.YtilejcofleeeiaaGreatDoor
