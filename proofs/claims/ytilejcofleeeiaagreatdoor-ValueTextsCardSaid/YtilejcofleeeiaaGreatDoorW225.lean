/- YtilejcofleeeiaaGreatDoor: walks, part 225: the program's printer: any value. -/
import Derived.Test.YtilejcofleeeiaaGreatDoorW106
namespace Go.Proofs.YtilejcofleeeiaaGreatDoor
open Go Go.K
open Nat renaming reduceEqDiff → qE
open List renaming length_cons → qN, length_append → qA, length_nil → qO
set_option maxRecDepth 100000
set_option linter.unusedVariables false
set_option linter.unusedSimpArgs false
set_option maxHeartbeats 4000000
theorem stab_mem {wb:World} {L Lq:Own} (hm:∀ p∈Lq,p∈L) (hnd:(Lq.map (·.1)).Nodup) (hL:∀ p∈L,wb.heap.size≤p.1):Stab wb L Lq:=fun w h =>
 ⟨h.os,h.tape,h.output,h.size,fun b o hp=>h.own b o (hm _ hp),hnd,fun k hk _=>h.rest k hk fun hx=>by
  obtain ⟨p,hp,rfl⟩:=List.mem_map.1 hx
  have:=hL p hp
  omega⟩
structure Rw where
 b:Option Nat
 n:Nat
 c:Nat
 cs:List Value
def Rw.OK (x:Rw):Prop:=(x.b=none∧x.n=0∧x.c=0)∨(x.b≠none∧x.n≤x.c∧x.c≤maxLen∧x.cs.length=x.c * 4)
def Rw.own (x:Rw):Own:=match x.b with|none=>[]|some b=>[(b,Obj.cells x.cs.toArray 29 (0,0))]
def Rw.at_ (x:Rw):Option Addr:=x.b.map fun b=>⟨b,0,none⟩
def Rw.way (x:Rw):Value:=.slice x.at_ x.n x.c
def ownR (l:List Rw):Own:=l.flatMap Rw.own
theorem ownR_append (a b:List Rw):ownR (a++b)=ownR a++ownR b:=by simp[ownR]
theorem ownR_cons (x:Rw) (l:List Rw):ownR (x::l)=x.own++ownR l:=by simp[ownR]
theorem ownR_one (x:Rw):ownR [x]=x.own:=by simp[ownR]
theorem RowO.rw {wb:World} {R:Own} {v:Value} {n:Nat} {xs:List Value} (h:RowO wb 29 4 R [] v n xs):∃ x:Rw,x.OK∧x.n=n∧v=x.way∧R=x.own∧x.cs.take (x.n * 4)=xs∧∀ p∈x.own,wb.heap.size≤p.1:=by
 obtain ⟨h0,⟨rfl,rfl,rfl⟩|⟨b,c,cs,rfl,rfl,h1,h2,h3,h4,h5⟩⟩:=h
 ·exact ⟨⟨none,0,0,[]⟩,.inl ⟨rfl,rfl,rfl⟩,rfl,rfl,rfl,(List.eq_nil_of_length_eq_zero (by omega)).symm,fun p hp=>by simp[Rw.own] at hp⟩
 ·exact ⟨⟨some b,n,c,cs⟩,.inr ⟨by simp,h2,h3,h4⟩,rfl,rfl,rfl,h5,fun p hp=>by
   simp only[Rw.own,List.mem_singleton] at hp
   rw[hp]; exact h1⟩
theorem Rw.row {wb:World} {x:Rw} (h:x.OK) (hn:∀ p∈x.own,wb.heap.size≤p.1):RowO wb 29 4 x.own [] x.way x.n (x.cs.take (x.n * 4)):=by
 obtain ⟨b,n,c,cs⟩:=x
 rcases h with ⟨h1,h2,h3⟩|⟨h1,h2,h3,h4⟩
 ·simp only at h1 h2 h3
  subst h1; subst h2; subst h3
  exact ⟨by simp,.inl ⟨rfl,rfl,rfl⟩⟩
 ·simp only at h1 h2 h3 h4
  cases b with
  | none=>exact absurd rfl h1
  | some b =>
   refine ⟨?_,.inr ⟨b,c,cs,rfl,rfl,hn _ (.head _),h2,h3,h4,rfl⟩⟩
   simp only[List.length_take]
   have:=Nat.mul_le_mul_right 4 h2
   omega
mutual
def ZeV:Vl→List Rw→Option Addr→Nat→Prop
 | .mk _ num tx ls,its,a,c=>tx.length≤9223372036854775807∧(-9223372036854775808≤num∧num < 9223372036854775808)∧∃ (x:Rw) (its':List Rw),its=x::its'∧x.OK∧x.n=ls.length∧x.c=c∧a=x.at_∧ZeK ls its' (x.cs.take (x.n * 4))
def ZeK:List Vl→List Rw→List Value→Prop
 | [],its,cs=>its=[]∧cs=[]
 | v::l,its,cs=>∃ (its1 its2:List Rw) (a:Option Addr) (c:Nat) (cs':List Value),its=its1++its2∧cs=v.cells a c++cs'∧ZeV v its1 a c∧ZeK l its2 cs'
end
theorem ZeV_iff (v:Vl) (its:List Rw) (a:Option Addr) (c:Nat):ZeV v its a c↔v.tx.length≤9223372036854775807∧(-9223372036854775808≤v.num∧v.num < 9223372036854775808)∧∃ (x:Rw) (its':List Rw),its=x::its'∧x.OK∧x.n=v.ls.length∧x.c=c∧a=x.at_∧ZeK v.ls its' (x.cs.take (x.n * 4)):=by
 cases v; rw[ZeV]; rfl
mutual
theorem ZeV.tr:∀ (v:Vl) {its:List Rw} {a:Option Addr} {c:Nat},ZeV v its a c→TrV v (ownR its) a c
 | .mk nu num tx ls,its,a,c,h=>by
  rw[ZeV] at h
  obtain ⟨h1,h2,x,its',rfl,h3,h4,rfl,rfl,h5⟩:=h
  have hk:=ZeK.tr ls h5
  obtain ⟨b,n,c,cs⟩:=x
  simp only at h4 hk
  rw[TrV]
  rcases h3 with ⟨q1,q2,q3⟩|⟨q1,q2,q3,q4⟩
  ·simp only at q1 q2 q3
   subst q1; subst q2; subst q3
   have:ls=[]:=List.eq_nil_of_length_eq_zero h4.symm
   subst this
   exact ⟨h1,h2,by simp,by simp,.inl rfl⟩
  ·simp only at q1 q2 q3 q4
   cases b with
   | none=>exact absurd rfl q1
   | some b =>
    refine ⟨h1,h2,by simp only; omega,by simp only[maxLen] at q3; simp only; omega,.inr ⟨b,cs.take (n * 4),cs.drop (n * 4),ownR its',rfl,?_,hk⟩⟩
    rw[List.take_append_drop,ownR_cons]
    rfl
theorem ZeK.tr:∀ (ls:List Vl) {its:List Rw} {cs:List Value},ZeK ls its cs→TrK ls (ownR its) cs
 | [],its,cs,h=>by
  rw[ZeK] at h
  obtain ⟨rfl,rfl⟩:=h
  rw[TrK]
  exact ⟨rfl,rfl⟩
 | v::l,its,cs,h=>by
  rw[ZeK] at h
  obtain ⟨its1,its2,a,c,cs',rfl,rfl,h1,h2⟩:=h
  rw[TrK]
  exact ⟨ownR its1,ownR its2,a,c,cs',ownR_append _ _,rfl,ZeV.tr v h1,ZeK.tr l h2⟩
end
theorem ZeK.append {m:List Vl} {is2:List Rw} {ds:List Value} (hd:ZeK m is2 ds):∀ {l:List Vl} {is1:List Rw} {cs:List Value},ZeK l is1 cs→ZeK (l++m) (is1++is2) (cs++ds)
 | [],is1,cs,h=>by rw[ZeK] at h; obtain ⟨rfl,rfl⟩:=h; exact hd
 | v::l,is1,cs,h=>by
  rw[ZeK] at h
  obtain ⟨A,B,a,c,cs',rfl,rfl,h1,h2⟩:=h
  rw[List.cons_append,ZeK]
  exact ⟨A,B++is2,a,c,cs'++ds,by rw[List.append_assoc],by rw[List.append_assoc],h1,ZeK.append hd h2⟩
theorem ZeK.single {v:Vl} {its:List Rw} {a:Option Addr} {c:Nat} (h:ZeV v its a c):ZeK [v] its (v.cells a c):=by
 rw[ZeK]
 exact ⟨its,[],a,c,[],by simp,by simp,h,by rw[ZeK]; exact ⟨rfl,rfl⟩⟩
theorem ZeK.nil:ZeK [] [] []:=by rw[ZeK]; exact ⟨rfl,rfl⟩
theorem Rw.n_le {x:Rw} (h:x.OK):x.n≤maxLen:=by
 rcases h with ⟨_,h,_⟩|⟨_,h1,h2,_⟩
 ·rw[h]; exact Nat.zero_le _
 ·exact Nat.le_trans h1 h2
section
variable {w:World} {base:Own} {x:Rw} {its:List Rw} {b4:Nat} {v:Vl} {E0:Env→Prop} {t1 t6 t7 t8 tS n1 n6 n7 n8 n9 n10:Nat} {D:Nat→Bool} {e:Env} {ds:List Deferred} {L:Own}
end
theorem BlO.over {wb:World} {T:TypeId} {b:Nat} {bs:List UInt8} {L M:Own} (A:Own) (h:BlO wb T b bs L M):∃ L',BlO wb T b bs L' (A++M)∧(∀ w,Sy wb (A++L) w→Sy wb L' w):=by
 obtain ⟨p,v,hp,⟨h1,⟨rfl,h2,rfl⟩|⟨g,cap,cs,rfl,rfl,h3⟩⟩,h0,hb⟩:=h
 ·exact ⟨_,⟨p,_,hp,⟨h1,.inl ⟨rfl,h2,rfl⟩⟩,h0,hb⟩,fun w hw=>hw.perm List.perm_middle⟩
 ·exact ⟨_,⟨p,_,hp,⟨h1,.inr ⟨g,cap,cs,rfl,rfl,h3⟩⟩,h0,hb⟩,fun w hw=>hw.perm (List.perm_middle.trans (List.perm_middle.cons _))⟩
theorem BlO.drop {wb:World} {T:TypeId} {b:Nat} {bs:List UInt8} {L M:Own} (A:Own) (h:BlO wb T b bs L (A++M)) (hA:∀ p∈A,wb.heap.size≤p.1):∃ L',BlO wb T b bs L' M∧(∀ w,Sy wb L w→Sy wb L' w):=by
 obtain ⟨p,v,hp,⟨h1,⟨rfl,h2,rfl⟩|⟨g,cap,cs,rfl,rfl,h3⟩⟩,h0,hb⟩:=h
 ·exact ⟨_,⟨p,_,hp,⟨h1,.inl ⟨rfl,h2,rfl⟩⟩,h0,hb⟩,fun w hw=>hw.mid [_] A hA⟩
 ·exact ⟨_,⟨p,_,hp,⟨h1,.inr ⟨g,cap,cs,rfl,rfl,h3⟩⟩,h0,hb⟩,fun w hw=>hw.mid [_,_] A hA⟩
def CutS (bs x bs':List UInt8):Prop:=bs'=bs++x∨(65536 < bs'.length∧65536 < (bs++x).length)
theorem CutS.self (bs x:List UInt8):CutS bs x (bs++x):=.inl rfl
theorem CutS.trans {a x b y c:List UInt8} (h:CutS a x b) (k:CutS b y c):CutS a (x++y) c:=by
 rcases h with rfl|⟨h1,h2⟩
 ·rcases k with rfl|⟨k1,k2⟩
  ·exact .inl (List.append_assoc ..)
  ·exact .inr ⟨k1,by rw[← List.append_assoc]; exact k2⟩
 ·refine .inr ⟨?_,by rw[← List.append_assoc,qA]; omega⟩
  rcases k with rfl|⟨k1,_⟩
  ·rw[qA]; omega
  ·exact k1
theorem CutS.add {a x b:List UInt8} (h:CutS a x b) (y:List UInt8):CutS a (x++y) (b++y):=h.trans (CutS.self b y)
def PrC (wb:World) (pb:Nat) (bs x:List UInt8) (n:Nat) (M:Own) (e:Ending) (w':World):Prop:=∃ v L',e=.returned v∧Sy wb L' w'∧(v=.tuple #[]∧∃ bs',BlO wb 58 pb bs' L' M∧CutS bs x bs'∧bs'.length≤bs.length+n)
theorem PrC.fin {wb w':World} {pb n:Nat} {bs x bs':List UInt8} {L A M:Own} (hB:BlO wb 58 pb bs' L (A++M)) (hA:∀ p∈A,wb.heap.size≤p.1) (hc:CutS bs x bs') (hn:bs'.length≤bs.length+n) (hw:Sy wb L w'):PrC wb pb bs x n M (.returned (.tuple #[])) w':=by
 obtain ⟨L',h1,h2⟩:=hB.drop A hA
 exact ⟨_,L',rfl,h2 w' hw,rfl,bs',h1,hc,hn⟩
def PrOK (d:Nat):Prop:=∀ (wb w:World) (lo pb:Nat) (bs:List UInt8) (L M:Own) (ind:Bool) (f:Fld) (v:Vl) (a va:Option Addr) (c vc:Nat),LibV wb→lo≤wb.heap.size→okT d ind f→fitD d f v=true→rngD d v→FlAt wb lo f a c→VAt wb lo v va vc→BlO wb 58 pb bs L M→(∀ p∈M,wb.heap.size≤p.1)→bs.length+10 * wV v≤500000000→Sy wb L w →
 Calls Tryz.prog 23 #[selfP pb,.agg (f.cells a c).toArray,.agg (v.cells va vc).toArray] w (PrC wb pb bs (showV d f v) (10 * wV v - 50) M)
def listT (d:Nat) (f:Fld) (l:List Vl):List UInt8:=(if f.k=17 then 123 else 91)::(itemsT f (showV d) 0 l++[if f.k=17 then 125 else 93])
def PsOK (d:Nat):Prop:=∀ (wb w:World) (lo pb:Nat) (bs:List UInt8) (L M:Own) (ind:Bool) (f:Fld) (v:Vl) (a va:Option Addr) (c vc:Nat),LibV wb→lo≤wb.heap.size→okT (d+1) ind f→(f.k=15∨f.k=16∨f.k=17)→v.nu=false→fitD (d+1) f v=true→rngD (d+1) v→FlAt wb lo f a c→VAt wb lo v va vc→BlO wb 58 pb bs L M→(∀ p∈M,wb.heap.size≤p.1)→bs.length+10 * wV v≤500000000→Sy wb L w →
 Calls Tryz.prog 53 #[selfP pb,.agg (f.tcells a c).toArray,.slice va v.ls.length vc] w (PrC wb pb bs (listT d f v.ls) (10 * wV v - 50) M)
theorem formatBool_T (b:Bool):Lib.formatBool b=boolT b:=by cases b<;>rfl
theorem formatBoolT_walk (w:World) (b:Bool):Calls Tryz.prog 47 #[.bool b] w (Rets w (Is (str (boolT b)))):=by rw[← formatBool_T]; exact formatBool_walk w b
theorem floatT_pos (n:Int):floatT n≠[]:=by
 obtain ⟨c,r,e,_⟩:=floatU_head (magU n)
 unfold floatT
 split<;>simp[e]
theorem print_step (d:Nat) (hP:PrOK d) (hS:PsOK d):PrOK (d+1):=by
 intro wb w lo pb bs L M ind f v a va c vc hl hlo hok hfit hr hA hV hB hM hlen hw
 have hsh:=show_len (d+1) f v ind hok hfit hr
 have hwp:=wV_pos v
 refine enterB (args:=[selfP pb,.agg (f.cells a c).toArray,.agg (v.cells va vc).toArray]) Tryz.func23 rfl Tryz.ntmps23 (congrArg Array.toList Tryz.results23) (by kernel_rfl) (by simp) hw ?_
 simp (disch:=omega) only[push_cast,qE,Fld.cells,Vl.cells]
 refine newI (fun b4 hb4 hn4=>?_)
 simp (disch:=omega) only[push_cast,qE,Fld.cells,Vl.cells]
 refine newI (fun b5 hb5 hn5=>?_)
 simp (disch:=omega) only[push_cast,qE,Fld.cells,Vl.cells]
 obtain ⟨o4,ho4⟩:∃ o,o=(qb0 b4 f a c):=⟨_,rfl⟩
 obtain ⟨o5,ho5⟩:∃ o,o=(qb3 b5 v.nu v.num v.tx va v.ls.length vc):=⟨_,rfl⟩
 have hA2:∀ p∈[o5,o4],wb.heap.size≤p.1:=fun p hp=>by
  simp only[List.mem_cons,List.mem_nil_iff,or_false] at hp
  rcases hp with rfl|rfl
  ·rw[ho5]; exact hb5
  ·rw[ho4]; exact hb4
 obtain ⟨L2,hB2,hs2⟩:=hB.over [o5,o4]
 have hM2:∀ p∈[o5,o4]++M,wb.heap.size≤p.1:=fun p hp=>(List.mem_append.1 hp).elim (hA2 p) (hM p)
 have m5:(qb3 b5 v.nu v.num v.tx va v.ls.length vc)∈L2:=by first|(rw[← ho5]; exact hB2.sub _ mem0)|(subst ho5; exact hB2.sub _ mem0)
 have m4:(qb0 b4 f a c)∈L2:=by first|(rw[← ho4]; exact hB2.sub _ mem1)|(subst ho4; exact hB2.sub _ mem1)
 refine callV en_24 (callX_weak (L':=L2) (by subst ho4 ho5; exact hs2) (cIs (fun w' hw'=>len_walk wb w' _ pb bs L2 _ hB2 hw') ?_))
 refine sp ?_
 rw[Vc]
 refine sp ?_
 refine cdD (fun hbig=>?_) (fun hbig=>?_)
 ·refine sp ?_
  exact fun w' hw'=>PrC.fin (A:=[o5,o4]) hB2 hA2 (.inr ⟨by omega,by rw[qA]; omega⟩) (by omega) hw'
 refine sp ?_
 refine lOn Shp.eq m5 rfl ?_
 refine sp ?_
 rw[Vc]
 refine sp ?_
 refine cdB (fun hnu=>?_) (fun hnu=>?_)
 ·refine sp ?_
  have hx:showV (d+1) f v=nullT:=by rw[showV,if_pos hnu]
  refine callV en_46 (callX_own (fun w' hw'=>write_walk wb w' _ (.inr rfl) pb bs nullT L2 _ hB2 (by decide) (by have:nullT.length=4:=rfl; omega) hw') (fun v' L3 hv3=>?_))
  obtain ⟨rfl,hB3⟩:=hv3
  refine sp ?_
  exact fun w' hw'=>PrC.fin (A:=[o5,o4]) hB3 hA2 (by rw[hx]; exact CutS.self _ _) (by rw[qA]; have:nullT.length=4:=rfl; omega) hw'
 refine sp ?_
 refine lAg Shp.eq m4 rfl rfl ?_
 refine sp ?_
 refine newI (fun b6 hb6 hn6=>?_)
 refine sp ?_
 refine sXa 0 rfl Siz.eq rfl rfl ?_
 refine sp ?_
 refine lOn Shp.eq mem0 rfl ?_
 refine sp ?_
 obtain ⟨o6,ho6⟩:∃ o,o=(qb1 b6 f a c):=⟨_,rfl⟩
 have hA3:∀ p∈[o6,o5,o4],wb.heap.size≤p.1:=fun p hp=>by
  rcases List.mem_cons.1 hp with rfl|hp
  ·rw[ho6]; exact hb6
  ·exact hA2 p hp
 obtain ⟨L3,hB3,hs3⟩:=hB2.over [o6]
 have hM3:∀ p∈[o6,o5,o4]++M,wb.heap.size≤p.1:=fun p hp=>(List.mem_append.1 hp).elim (hA3 p) (hM p)
 have hnd:([o6,o5,o4].map (·.1)).Nodup:=by
  rw[ho4,ho5,ho6]
  have q5:b5≠b4:=fun e=>hn5 (by rw[e]; simp)
  have q6:b6≠b5:=fun e=>hn6 (List.mem_map.2 ⟨_,m5,e.symm⟩)
  have q7:b6≠b4:=fun e=>hn6 (List.mem_map.2 ⟨_,m4,e.symm⟩)
  simp[q5,q6,q7]
 have hst:∀ {bs':List UInt8} {L':Own},BlO wb 58 pb bs' L' ([o6,o5,o4]++M)→Stab wb L' [o6,o5,o4]:=fun hB'=>stab_mem (fun p hp=>hB'.sub p (List.mem_append_left _ hp)) hnd (hB'.new hM3)
 have hst0:Stab wb ((qb1 b6 f a c)::L2) [o6,o5,o4]:=fun w' hw'=>hst hB3 w' (hs3 w' (by rw[ho6]; exact hw'))
 have hLn:∀ p∈((qb1 b6 f a c)::L2),wb.heap.size≤p.1:=(nC hb6 (hB2.new hM2))
 have hsub:∀ w',Sy wb ((qb1 b6 f a c)::L2) w'→Sy wb L3 w':=fun w' hw'=>hs3 w' (by rw[ho6]; exact hw')
 have fin:∀ {bs':List UInt8} {L':Own},BlO wb 58 pb bs' L' ([o6,o5,o4]++M)→CutS bs (showV (d+1) f v) bs'→bs'.length≤bs.length+(10 * wV v - 50)→∀ w',Sy wb L' w'→PrC wb pb bs (showV (d+1) f v) (10 * wV v - 50) M (.returned (.tuple #[])) w':=fun hB' hc hn w' hw'=>PrC.fin (A:=[o6,o5,o4]) hB' hA3 hc hn hw'
 refine forget (fun e=>e 0=selfP pb∧e 4=.pointer (some ⟨b4,0,none⟩)∧e 5=.pointer (some ⟨b5,0,none⟩)∧e 6=.pointer (some ⟨b6,0,none⟩)∧e 21=i64 f.k) ⟨rfl,rfl,rfl,rfl,rfl⟩ ?_
 rintro e ⟨h0,h4,h5,h6,h21⟩
 have hnl:¬ v.nu=true:=by rw[hnu]; decide
 rw[Vb]
 by_cases hkA:f.k=19∨f.k=20
 ·obtain ⟨g,hg⟩:∃ g,f.sub[0]?=some g:=by
   have h1:=hok.1.1.2.2.2.1
   exact ⟨_,List.getElem?_eq_getElem (by rcases hkA with hk|hk<;>rw[hk] at h1<;>simp[leastK] at h1<;>omega)⟩
  have hx:showV (d+1) f v=showV d g v:=by rw[showV,if_neg hnl,if_pos hkA,hg]
  have hpos:0 < f.sub.length:=(List.getElem?_eq_some_iff.1 hg).1
  obtain ⟨gb,goff,ga,gc,rfl,g1,g2,g3⟩:=hA.get hg
  rw[Nat.zero_mul,Nat.add_zero] at g2
  rcases hkA with hk|hk<;>rw[hk] at h21<;>simp (disch:=omega) only[push_cast,qE,h21]
  all_goals repeat ((try rw[Vc]); (try simp (disch:=omega) only[push_cast,qE,h21]); (refine cdD (fun h9=>?_) (fun h9=>?_)<;>first|(exfalso; first|omega|exact h9 trivial)|((try clear h9); try simp (disch:=omega) only[push_cast,qE,h21])))
  all_goals
   refine freeT [0,1,2,3,4,5] [6] [o6,o5,o4] (by kernel_rfl) mixed (by kernel_rfl) hst0 ?_
   simp (disch:=omega) only[push_cast,qE,h0,h5,h6]
   refine lOn Shp.eq (by rw[ho6]; exact mem0) rfl ?_
   simp (disch:=omega) only[push_cast,qE,h0,h5,h6]
   refine ldAggF Shp.eq g2 rfl (out_of (fun p hp=>Nat.lt_of_lt_of_le (Nat.lt_of_lt_of_le g1 hlo) (hA3 p hp))) ?_
   simp (disch:=omega) only[push_cast,qE,h0,h5,h6,Fld.cells]
   refine lAg Shp.eq (by rw[ho5]; exact mem1) rfl rfl ?_
   simp (disch:=omega) only[push_cast,qE,h0,h5,h6]
   refine callV en_23 (callX_weak hsub (callX_own (fun w' hw'=>hP wb w' lo pb bs L3 _ _ g v ga va gc vc hl hlo (hok.2 g (List.mem_of_getElem? hg)) (fit_wrap hnu (by first|exact .inl hk|exact .inr hk) hg hfit) (rng_down d v hr) g3 hV hB3 hM3 hlen hw') (fun v' L4 hv4=>?_)))
   obtain ⟨rfl,bs',hB4,hc4,hn4⟩:=hv4
   refine ⟨rfl,hst hB4,?_⟩
   refine sp ?_
   exact fin hB4 (by rw[hx]; exact hc4) hn4
 have num:∀ x:List UInt8,showV (d+1) f v=x→x.length+50≤10 * wV v:=fun x hx=>by rw[← hx]; exact hsh
 by_cases hk2:f.k=2
 ·have hx:showV (d+1) f v=boolT (decide (v.num=1)):=by rw[showV,if_neg hnl,if_neg hkA,if_neg (by omega),if_neg (by omega),if_neg (by omega),if_neg (by omega),numT,if_pos hk2]
  have hxl:=num _ hx
  rw[hk2] at h21
  simp (disch:=omega) only[push_cast,qE,h21]
  repeat ((try rw[Vc]); (try simp (disch:=omega) only[push_cast,qE,h21]); (refine cdD (fun h9=>?_) (fun h9=>?_)<;>first|(exfalso; first|omega|exact h9 trivial)|((try clear h9); try simp (disch:=omega) only[push_cast,qE,h21])))
  refine freeT [0,1,2,3,4,5] [6,7] [o6,o5,o4] (by kernel_rfl) mixed (by kernel_rfl) hst0 ?_
  simp (disch:=omega) only[push_cast,qE,h0,h5]
  refine lOn Shp.eq (by rw[ho5]; exact mem1) rfl ?_
  simp (disch:=omega) only[push_cast,qE,h0,h5]
  refine callV en_47 (cIs (fun w' hw'=>formatBoolT_walk w' _) ⟨rfl,hst0,?_⟩)
  simp (disch:=omega) only[push_cast,qE,h0,h5]
  refine callV en_46 (callX_weak hsub (callX_own (fun w' hw'=>write_walk wb w' _ (.inr rfl) pb bs (boolT (decide (v.num=1))) L3 _ hB3 (by unfold boolT; split<;>simp) (by omega) hw') (fun v' L4 hv4=>?_)))
  obtain ⟨rfl,hB4⟩:=hv4
  refine ⟨rfl,hst hB4,?_⟩
  refine sp ?_
  exact fin hB4 (by rw[hx]; exact CutS.self _ _) (by rw[qA]; omega)
 have ew:IntKind.u64.wrap v.num=(unsP v.num:Int):=wrapU _ hV.hn.1 hV.hn.2
 by_cases hk10:f.k=10
 ·have hx:showV (d+1) f v=Lib.decDigits (unsP v.num):=by rw[showV,if_neg hnl,if_neg hkA,if_neg (by omega),if_neg (by omega),if_neg (by omega),if_neg (by omega),numT,if_neg hk2,if_pos hk10]
  have hxl:=num _ hx
  rw[hk10] at h21
  simp (disch:=omega) only[push_cast,qE,h21]
  repeat ((try rw[Vc]); (try simp (disch:=omega) only[push_cast,qE,h21]); (refine cdD (fun h9=>?_) (fun h9=>?_)<;>first|(exfalso; first|omega|exact h9 trivial)|((try clear h9); try simp (disch:=omega) only[push_cast,qE,h21])))
  refine freeT [0,1,2,3,4,5] [6,7] [o6,o5,o4] (by kernel_rfl) mixed (by kernel_rfl) hst0 ?_
  simp (disch:=omega) only[push_cast,qE,h0,h5]
  refine lOn Shp.eq (by rw[ho5]; exact mem1) rfl ?_
  simp (disch:=omega) only[push_cast,qE,h0,h5,ew]
  refine callV en_48 (cIs (fun w' hw'=>formatUint_walk w' (hl.mono hw' hLn) _ (by unfold unsP; omega)) ⟨rfl,hst0,?_⟩)
  simp (disch:=omega) only[push_cast,qE,h0,h5]
  refine callV en_46 (callX_weak hsub (callX_own (fun w' hw'=>write_walk wb w' _ (.inr rfl) pb bs (Lib.decDigits (unsP v.num)) L3 _ hB3 ((dec_all _).2.1) (by omega) hw') (fun v' L4 hv4=>?_)))
  obtain ⟨rfl,hB4⟩:=hv4
  refine ⟨rfl,hst hB4,?_⟩
  refine sp ?_
  exact fin hB4 (by rw[hx]; exact CutS.self _ _) (by rw[qA]; omega)
 by_cases hk11:f.k=11
 ·have hx:showV (d+1) f v=floatT v.num:=by rw[showV,if_neg hnl,if_neg hkA,if_neg (by omega),if_neg (by omega),if_neg (by omega),if_neg (by omega),numT,if_neg hk2,if_neg hk10,if_pos hk11]
  have hxl:=num _ hx
  rw[hk11] at h21
  simp (disch:=omega) only[push_cast,qE,h21]
  repeat ((try rw[Vc]); (try simp (disch:=omega) only[push_cast,qE,h21]); (refine cdD (fun h9=>?_) (fun h9=>?_)<;>first|(exfalso; first|omega|exact h9 trivial)|((try clear h9); try simp (disch:=omega) only[push_cast,qE,h21])))
  refine freeT [0,1,2,3,4] [5,6] [o6,o5,o4] (by kernel_rfl) mixed (by kernel_rfl) hst0 ?_
  simp (disch:=omega) only[push_cast,qE,h0,h5]
  refine lOn Shp.eq (by rw[ho5]; exact mem1) rfl ?_
  simp (disch:=omega) only[push_cast,qE,h0,h5]
  refine callV en_49 (cIs (fun w' hw'=>float_walk w' (hl.mono hw' hLn) _ hV.hn.1 hV.hn.2) ⟨rfl,hst0,?_⟩)
  simp (disch:=omega) only[push_cast,qE,h0,h5]
  refine callV en_46 (callX_weak hsub (callX_own (fun w' hw'=>write_walk wb w' _ (.inr rfl) pb bs (floatT v.num) L3 _ hB3 (floatT_pos _) (by omega) hw') (fun v' L4 hv4=>?_)))
  obtain ⟨rfl,hB4⟩:=hv4
  refine ⟨rfl,hst hB4,?_⟩
  refine sp ?_
  exact fin hB4 (by rw[hx]; exact CutS.self _ _) (by rw[qA]; omega)
 by_cases hk12:f.k=12
 ·have hx:showV (d+1) f v=textT v.tx:=by rw[showV,if_neg hnl,if_neg hkA,if_pos hk12]
  have hxl:=num _ hx
  rw[hk12] at h21
  simp (disch:=omega) only[push_cast,qE,h21]
  repeat ((try rw[Vc]); (try simp (disch:=omega) only[push_cast,qE,h21]); (refine cdD (fun h9=>?_) (fun h9=>?_)<;>first|(exfalso; first|omega|exact h9 trivial)|((try clear h9); try simp (disch:=omega) only[push_cast,qE,h21])))
  simp (disch:=omega) only[push_cast,qE,h0,h5]
  all_goals
   refine lOn Shp.eq (.tail _ m5) rfl ?_
   simp (disch:=omega) only[push_cast,qE,h0]
   refine callV en_50 (callX_weak hsub (callX_own (fun w' hw'=>printText_walk wb w' pb bs v.tx L3 _ hB3 hM3 (by omega) hw') (fun v' L4 hv4=>?_)))
   obtain ⟨rfl,hB4⟩:=hv4
   refine sp ?_
   exact fin hB4 (by rw[hx]; exact CutS.self _ _) (by rw[qA]; omega)
 by_cases hk13:f.k=13∨f.k=14
 ·have hx:showV (d+1) f v=bytesT v.tx:=by rw[showV,if_neg hnl,if_neg hkA,if_neg hk12,if_pos hk13]
  have hxl:=num _ hx
  rcases hk13 with hk|hk<;>rw[hk] at h21<;>simp (disch:=omega) only[push_cast,qE,h21]
  all_goals repeat ((try rw[Vc]); (try simp (disch:=omega) only[push_cast,qE,h21]); (refine cdD (fun h9=>?_) (fun h9=>?_)<;>first|(exfalso; first|omega|exact h9 trivial)|((try clear h9); try simp (disch:=omega) only[push_cast,qE,h21])))
  all_goals simp (disch:=omega) only[push_cast,qE,h0,h5]
  all_goals
   refine lOn Shp.eq (.tail _ m5) rfl ?_
   simp (disch:=omega) only[push_cast,qE,h0]
   refine callV en_51 (callX_weak hsub (callX_own (fun w' hw'=>printBytes_walk wb w' pb bs v.tx L3 _ hB3 hM3 (by omega) hw') (fun v' L4 hv4=>?_)))
   obtain ⟨rfl,hB4⟩:=hv4
   refine sp ?_
   exact fin hB4 (by rw[hx]; exact CutS.self _ _) (by rw[qA]; omega)
 by_cases hk18:f.k=18
 ·obtain ⟨g,z,hg,hz,hl1,z0,zlt,hgz⟩:=fit_union hnu hk18 hfit
  have hgm:=List.mem_of_getElem? hg
  have hzm:=List.mem_of_getElem? hz
  have hx:showV (d+1) f v=g.nm++40::(showV d g z++[41]):=by rw[showV,if_neg hnl,if_neg hkA,if_neg hk12,if_neg hk13,if_pos hk18,hg,hz]
  have hxl:=num _ hx
  have hnm:=((hok.2 g hgm).name).2.2
  have hwz:=wL_mem hzm
  have hwe:=wV_eq v
  simp only[qA,qN,qO] at hxl
  obtain ⟨gb,goff,ga,gc,rfl,g1,g2,g3⟩:=hA.get hg
  obtain ⟨zb,zoff,za,zc,rfl,z1,z2,z3⟩:=hV.get hz
  rw[Nat.zero_mul,Nat.add_zero] at z2
  rw[hk18] at h21
  simp (disch:=omega) only[push_cast,qE,h21]
  repeat ((try rw[Vc]); (try simp (disch:=omega) only[push_cast,qE,h21]); (refine cdD (fun h9=>?_) (fun h9=>?_)<;>first|(exfalso; first|omega|exact h9 trivial)|((try clear h9); try simp (disch:=omega) only[push_cast,qE,h21])))
  refine freeT [0,1,2,3,4,5,6,7,8,9,10] [11] [o6,o5,o4] (by kernel_rfl) mixed (by kernel_rfl) hst0 ?_
  simp (disch:=omega) only[push_cast,qE,h0,h5,h6]
  refine lOn Shp.eq (by rw[ho6]; exact mem0) rfl ?_
  simp (disch:=omega) only[push_cast,qE,h0,h5,h6]
  refine lOn Shp.eq (by rw[ho5]; exact mem1) rfl ?_
  simp (disch:=omega) only[push_cast,qE,h0,h5,h6]
  refine ldF Shp.eq (g2.sub 0 [str g.nm] rfl) (out_of (fun p hp=>Nat.lt_of_lt_of_le (Nat.lt_of_lt_of_le g1 hlo) (hA3 p hp))) ?_
  simp (disch:=omega) only[push_cast,qE,h0,h5,h6]
  refine addS (m:=[40]) (by simp only[qN,qO]; omega) ?_
  simp (disch:=omega) only[push_cast,qE,h0,h5,h6]
  refine callV en_46 (callX_weak hsub (callX_own (fun w' hw'=>write_walk wb w' _ (.inr rfl) pb bs (g.nm++[40]) L3 _ hB3 (by simp) (by simp only[qA,qN,qO]; omega) hw') (fun v' L4 hv4=>?_)))
  obtain ⟨rfl,hB4⟩:=hv4
  refine ⟨rfl,hst hB4,?_⟩
  refine sp ?_
  refine freeT [0,1,2,3,4,5,6,7,8,9,10] [11] [o6,o5,o4] (by kernel_rfl) mixed (by kernel_rfl) (hst hB4) ?_
  simp (disch:=omega) only[push_cast,qE,h0,h5,h6]
  refine lOn Shp.eq (by rw[ho6]; exact mem0) rfl ?_
  simp (disch:=omega) only[push_cast,qE,h0,h5,h6]
  refine lOn Shp.eq (by rw[ho5]; exact mem1) rfl ?_
  simp (disch:=omega) only[push_cast,qE,h0,h5,h6]
  refine ldAggF Shp.eq g2 rfl (out_of (fun p hp=>Nat.lt_of_lt_of_le (Nat.lt_of_lt_of_le g1 hlo) (hA3 p hp))) ?_
  simp (disch:=omega) only[push_cast,qE,h0,h5,h6,Fld.cells]
  refine lOn Shp.eq (by rw[ho5]; exact mem1) rfl ?_
  simp (disch:=omega) only[push_cast,qE,h0,h5,h6]
  refine ldAggF Shp.eq z2 rfl (out_of (fun p hp=>Nat.lt_of_lt_of_le (Nat.lt_of_lt_of_le z1 hlo) (hA3 p hp))) ?_
  simp (disch:=omega) only[push_cast,qE,h0,h5,h6,Vl.cells]
  refine callV en_23 (callX_own (fun w' hw'=>hP wb w' lo pb _ L4 _ _ g z ga za gc zc hl hlo (hok.2 g hgm) hgz (hr.2 z hzm) g3 z3 hB4 hM3 (by simp only[qA,qN,qO]; omega) hw') (fun v' L5 hv5=>?_))
  obtain ⟨rfl,bs5,hB5,hc5,hn5⟩:=hv5
  refine ⟨rfl,hst hB5,?_⟩
  simp (disch:=omega) only[push_cast,qE,h0]
  simp only[qA,qN,qO] at hn5
  refine callV en_52 (callX_own (fun w' hw'=>writeByte_walk wb w' _ (.inr rfl) pb _ 41 L5 _ hB5 (by omega) hw') (fun v' L6 hv6=>?_))
  obtain ⟨rfl,hB6⟩:=hv6
  refine sp ?_
  refine fin hB6 ?_ (by simp only[qA,qN,qO]; omega)
  rw[hx,show g.nm++40::(showV d g z++[41])=(g.nm++[40])++showV d g z++[41] by simp]
  exact ((CutS.self bs (g.nm++[40])).trans hc5).add [41]
 by_cases hk15:f.k=15∨f.k=16∨f.k=17
 ·have hx:showV (d+1) f v=listT d f v.ls:=by rw[showV,if_neg hnl,if_neg hkA,if_neg hk12,if_neg hk13,if_neg hk18,if_pos hk15]; rfl
  have hk15':=hk15
  rcases hk15 with hk|hk|hk<;>rw[hk] at h21<;>simp (disch:=omega) only[push_cast,qE,h21]
  all_goals repeat ((try rw[Vc]); (try simp (disch:=omega) only[push_cast,qE,h21]); (refine cdD (fun h9=>?_) (fun h9=>?_)<;>first|(exfalso; first|omega|exact h9 trivial)|((try clear h9); try simp (disch:=omega) only[push_cast,qE,h21])))
  all_goals
   simp (disch:=omega) only[push_cast,qE,h0,h5,h6]
   refine lAg Shp.eq mem0 rfl rfl ?_
   simp (disch:=omega) only[push_cast,qE,h0,h5,h6]
   refine lOn Shp.eq (.tail _ m5) rfl ?_
   simp (disch:=omega) only[push_cast,qE,h0,h5,h6]
   refine callV en_53 (callX_weak hsub (callX_own (fun w' hw'=>hS wb w' lo pb bs L3 _ ind f v a va c vc hl hlo hok hk15' hnu hfit hr hA hV hB3 hM3 hlen hw') (fun v' L4 hv4=>?_)))
   obtain ⟨rfl,bs',hB4,hc4,hn4⟩:=hv4
   refine sp ?_
   exact fin hB4 (by rw[hx]; exact hc4) hn4
 have hx:showV (d+1) f v=Lib.itoa v.num:=by rw[showV,if_neg hnl,if_neg hkA,if_neg hk12,if_neg hk13,if_neg hk18,if_neg hk15,numT,if_neg hk2,if_neg hk10,if_neg hk11]
 have hxl:=num _ hx
 simp (disch:=omega) only[push_cast,qE,h21]
 repeat ((try rw[Vc]); (try simp (disch:=omega) only[push_cast,qE,h21]); (refine cdD (fun h9=>?_) (fun h9=>?_)<;>first|(exfalso; first|omega|exact h9 trivial)|((try clear h9); try simp (disch:=omega) only[push_cast,qE,h21])))
 refine freeT [0,1,2,3,4] [5,6] [o6,o5,o4] (by kernel_rfl) mixed (by kernel_rfl) hst0 ?_
 simp (disch:=omega) only[push_cast,qE,h0,h5]
 refine lOn Shp.eq (by rw[ho5]; exact mem1) rfl ?_
 simp (disch:=omega) only[push_cast,qE,h0,h5]
 refine callV en_54 (cIs (fun w' hw'=>formatInt_walk w' (hl.mono hw' hLn) _ hV.hn.1 hV.hn.2) ⟨rfl,hst0,?_⟩)
 simp (disch:=omega) only[push_cast,qE,h0,h5]
 refine callV en_46 (callX_weak hsub (callX_own (fun w' hw'=>write_walk wb w' _ (.inr rfl) pb bs (Lib.itoa v.num) L3 _ hB3 (by obtain ⟨c,r,e,_⟩:=itoa_head v.num; rw[e]; simp) (by omega) hw') (fun v' L4 hv4=>?_)))
 obtain ⟨rfl,hB4⟩:=hv4
 refine ⟨rfl,hst hB4,?_⟩
 refine sp ?_
 exact fin hB4 (by rw[hx]; exact CutS.self _ _) (by rw[qA]; omega)
end Go.Proofs.YtilejcofleeeiaaGreatDoor
