/- YtilejcofleeeiaaGreatDoor: walks, part 235: a parser: the items of lists and spans. -/
import Derived.Test.YtilejcofleeeiaaGreatDoorW233
namespace Go.Proofs.YtilejcofleeeiaaGreatDoor
open Go Go.K
open Nat renaming reduceEqDiff → qE
set_option maxRecDepth 100000
set_option linter.unusedVariables false
set_option linter.unusedSimpArgs false
set_option maxHeartbeats 4000000
def NbS (k:Int) (row:List UInt8) (v:Value):Prop:=∃ (n:Int) (b:Bool),v=.tuple #[i64 n,.bool b]∧(b=true→readN k row=some n)∧(b=false→readN k row=none)
theorem NbS.no {k:Int} {row:List UInt8} (n:Int) (h:∀ m,isNum k m→numT k m≠row):NbS k row (.tuple #[i64 n,.bool false]):=⟨n,false,rfl,fun h=>absurd h (by decide),fun _=>readN_no h⟩
theorem NbS.dec {k n:Int} {row:List UInt8} {p:Prop} [Decidable p] (h1:p→isNum k n∧numT k n=row) (h2:¬ p→∀ m,isNum k m→numT k m≠row):NbS k row (.tuple #[i64 n,.bool (decide p)]) :=
 ⟨n,_,rfl,fun h=>readN_yes (h1 (of_decide_eq_true h)).1 (h1 (of_decide_eq_true h)).2,fun h=>readN_no (h2 (of_decide_eq_false h))⟩
theorem numT_un {m:Int}:numT 10 m=Lib.decDigits (unsP m):=by unfold numT; rw[if_neg (by decide),if_pos rfl]
theorem uns_wrap {u:Nat} (h:u < 18446744073709551616):unsP (IntKind.i64.wrap u)=u:=by
 rw[show IntKind.i64.wrap (u:Int)=_ from IntKind.wrap_i64 _]
 unfold unsP
 omega
theorem number_walk (w:World) (hl:LibV w) (k:Int) (row:List UInt8) (hlen:row.length≤65536):Calls Tryz.prog 75 #[i64 k,str row] w (Rets w fun v _=>NbS k row v):=by
 refine enterT (args:=[i64 k,str row]) Tryz.func75 rfl Tryz.ntmps75 (congrArg Array.toList Tryz.results75) (by kernel_rfl) (by simp) (Sy.refl w) ?_
 refine sp ?_
 rw[Vb]
 refine sp ?_
 rw[Vc]
 refine sp ?_
 refine cdD (fun hk=>?_) (fun hk2=>?_)
 ·have hb:∀ m,isNum k m→m=0∨m=1:=fun m hm=>by have:=hm.2; rwa [if_pos hk] at this
  have ht:∀ m,numT k m=boolT (decide (m=1)):=fun m=>by unfold numT; rw[if_pos hk]
  refine sp ?_
  rw[Vc]
  refine sp ?_
  refine cdD (fun h1=>?_) (fun h1=>?_)
  ·refine sp ?_
   refine gF rfl (fun h=>absurd h1 h) (fun _=>?_)
   refine sp ?_
   exact finEx (by simp) fun w' _=>⟨1,true,rfl,fun _=>readN_yes ⟨by decide,by rw[if_pos hk]; exact .inr rfl⟩ (by rw[ht,h1]; rfl),fun h=>absurd h (by decide)⟩
  ·refine sp ?_
   refine gF rfl (fun _=>?_) (fun h=>absurd h h1)
   refine sp ?_
   refine finEx (by simp) fun w' _=>NbS.dec (fun h=>⟨⟨by decide,by rw[if_pos hk]; exact .inl rfl⟩,by rw[ht,h]; rfl⟩) (fun h m hm he=>?_)
   rw[ht] at he
   rcases hb m hm with rfl|rfl
   ·exact h he.symm
   ·exact h1 he.symm
 refine sp ?_
 rw[Vc]
 refine sp ?_
 refine cdD (fun hk=>?_) (fun hk11=>?_)
 ·refine sp ?_
  refine callV en_107 (callX_ex (fun w' hw'=>floating_walk w' (hl.mono hw' (by simp)) row hlen) (fun v hv=>?_))
  obtain ⟨n,b,rfl,h1,h2⟩:=hv
  refine sp ?_
  refine finEx (by simp) fun w' _=>⟨n,b,rfl,fun h=>readN_yes ⟨(h1 h).1,by rw[if_neg hk2,if_pos hk]; trivial⟩ (by unfold numT; rw[if_neg hk2,if_neg (by omega),if_pos hk]; exact (h1 h).2),fun h=>readN_no fun m hm he=>h2 h m hm.1 ?_⟩
  unfold numT at he
  rwa [if_neg hk2,if_neg (by omega),if_pos hk] at he
 refine sp ?_
 rw[Vc]
 refine sp ?_
 refine cdD (fun hk=>?_) (fun hk10=>?_)
 ·have hin:∀ m,isNum 10 m↔(-9223372036854775808≤m∧m < 9223372036854775808):=fun m=>⟨fun h=>h.1,fun h=>⟨h,by rw[if_neg (by decide),if_neg (by decide)]; exact ⟨rfl,rfl⟩⟩⟩
  subst hk
  have back:∀ m,isNum 10 m→numT 10 m=row→Lib.parseUintB 64 row=.ok (unsP m):=fun m hm he=>by
   rw[← he,numT_un]
   exact parseU_dec _ (by unfold unsP; omega)
  refine sp ?_
  refine callV en_108 (callX_ex (fun w' hw'=>parseUint_walk w' (hl.mono hw' (by simp)) row (by omega)) (fun v hv=>?_))
  obtain ⟨n,n0,n1,⟨hp,rfl⟩|⟨hp,te,pe,rfl⟩⟩:=hv
  ·obtain ⟨u,rfl⟩:∃ u:Nat,n=u:=⟨n.toNat,by omega⟩
   have hu:=uns_wrap (u:=u) (by omega)
   refine sp ?_
   refine Eq.mpr (eq_err_nil _) ?_
   refine sp ?_
   refine callV en_48 (cIs (fun w' hw'=>formatUint_walk w' (hl.mono hw' (by simp)) u (by omega)) ?_)
   refine sp ?_
   refine finEx (by simp) fun w' _=>NbS.dec (n:=IntKind.i64.wrap u) (fun h=>⟨(hin _).2 ?_,by rw[numT_un,hu]; exact h⟩) (fun h m hm he=>?_)
   ·rw[show IntKind.i64.wrap (u:Int)=_ from IntKind.wrap_i64 _]
    omega
   ·have h1:=back m hm he
    rw[h1] at hp
    have h2:((unsP m:Nat):Int)=u:=Option.some.inj hp
    rw[numT_un] at he
    exact h (by rw[show u=unsP m by omega]; exact he)
  ·refine sp ?_
   refine Eq.mpr (eq_err_some _ _ _) ?_
   refine sp ?_
   refine finEx (by simp) fun w' _=>NbS.no _ fun m hm he=>?_
   rw[back m hm he] at hp
   cases hp
 refine sp ?_
 refine callV en_82 (cIs (fun w' _=>whole_walk w' k) ?_)
 refine sp ?_
 rw[Vc]
 refine sp ?_
 refine cdB (fun hw=>?_) (fun hw=>?_)
 ·refine sp ?_
  refine finEx (by simp) fun w' _=>NbS.no _ fun m hm he=>?_
  have:=hm.2
  rw[if_neg hk2,if_neg hk11] at this
  rw[this.1] at hw
  cases hw
 have hwh:wholeP k=true:=by simpa using hw
 have hkr:3≤k∧k≤10:=by unfold wholeP at hwh; simpa using hwh
 have ht:∀ m,numT k m=Lib.itoa m:=fun m=>by unfold numT; rw[if_neg hk2,if_neg hk10,if_neg hk11]
 have back:∀ m,isNum k m→numT k m=row→Lib.parseIntB 64 row=.ok m:=fun m hm he=>by
  rw[← he,ht]
  exact parseI_itoa _ hm.1.1 hm.1.2
 refine sp ?_
 refine callV en_109 (callX_ex (fun w' hw'=>parseInt_walk w' (hl.mono hw' (by simp)) row (by omega)) (fun v hv=>?_))
 obtain ⟨n,n0,n1,⟨hp,rfl⟩|⟨hp,te,pe,rfl⟩⟩:=hv
 ·refine sp ?_
  refine Eq.mpr (eq_err_nil _) ?_
  refine sp ?_
  refine callV en_54 (cIs (fun w' hw'=>formatInt_walk w' (hl.mono hw' (by simp)) n n0 n1) ?_)
  refine sp ?_
  refine gT rfl (fun he=>?_) (fun hne=>?_)
  ·refine sp ?_
   refine callV en_83 (cIs (fun w' _=>ranged_walk w' k n hkr) ?_)
   refine sp ?_
   refine finEx (by simp) fun w' _=>⟨n,_,rfl,fun h=>readN_yes ⟨⟨n0,n1⟩,by rw[if_neg hk2,if_neg hk11]; exact ⟨hwh,h⟩⟩ (by rw[ht]; exact he),fun h=>readN_no fun m hm h3=>?_⟩
   rw[back m hm h3] at hp
   have e2:m=n:=Option.some.inj hp
   have:=hm.2
   rw[if_neg hk2,if_neg hk11,e2,h] at this
   exact absurd this.2 (by decide)
  ·refine sp ?_
   refine finEx (by simp) fun w' _=>NbS.no _ fun m hm h3=>?_
   rw[back m hm h3] at hp
   have e2:m=n:=Option.some.inj hp
   rw[ht,e2] at h3
   exact hne h3
 ·refine sp ?_
  refine Eq.mpr (eq_err_some _ _ _) ?_
  refine sp ?_
  refine finEx (by simp) fun w' _=>NbS.no _ fun m hm he=>?_
  rw[back m hm he] at hp
  cases hp
end Go.Proofs.YtilejcofleeeiaaGreatDoor
namespace Go.K
open Go
open Nat renaming reduceEqDiff → qE
def wt (f:Nat×Obj→Nat):Own→Nat
 | []=>0
 | x::l=>f x+wt f l
theorem wt_nil (f:Nat×Obj→Nat):wt f []=0:=rfl
theorem wt_cons (f:Nat×Obj→Nat) (x:Nat×Obj) (l:Own):wt f (x::l)=f x+wt f l:=rfl
theorem wt_append (f:Nat×Obj→Nat):∀ l m:Own,wt f (l++m)=wt f l+wt f m
 | [],m=>by rw[wt_nil,Nat.zero_add]; rfl
 | x::l,m=>by rw[List.cons_append,wt_cons,wt_cons,wt_append f l m,Nat.add_assoc]
open Classical in
theorem wt_count (a:Nat×Obj):∀ l:Own,wt (fun x=>if x=a then 1 else 0) l=l.count a
 | []=>by simp[wt_nil]
 | x::l=>by rw[wt_cons,wt_count a l,List.count_cons,Nat.add_comm]; simp
open Classical in
theorem permC {l m:Own} (h:∀ f:Nat×Obj→Nat,wt f l=wt f m):l.Perm m:=List.perm_iff_count.2 fun a=>by rw[← wt_count,← wt_count,h]
theorem pC {l m:Own} (h:∀ f:Nat×Obj→Nat,wt f l=wt f m:=by intro f; simp only[wt_append,wt_cons,wt_nil]<;>omega):l.Perm m:=permC h
end Go.K
namespace Go.Proofs.YtilejcofleeeiaaGreatDoor
open Go Go.K
open Nat renaming reduceEqDiff → qE
set_option maxRecDepth 100000
set_option linter.unusedVariables false
set_option linter.unusedSimpArgs false
set_option maxHeartbeats 4000000
theorem callX_pw {P:Program} {α:Type} {wb:World} {L M:Own} {Kp:KP} {pb:Nat} {s:List UInt8} {r:PV α} {S:α→Value→Own→Prop} {f:FuncId} {args:Array Value} {K1:Value→World→Own→Prop} (W:Nat→Own→Own)
 (h:∀ w,Sy wb L w→Calls P f args w (PVR wb pb s M r S)) (hW:∀ q K w,Sy wb (oPs pb s q::(K++M)) w→Sy wb (W q K) w)
 (hk:∀ x q v K,r=.ok x q→q≤s.length→S x v K→(∀ b∈K,wb.heap.size≤b.1)→K1 v wb (W q K))
 (hp:∀ er q K,r=.no er q→(∀ b∈K,wb.heap.size≤b.1)→Kp [wrongE er q] wb (K++M)):CallX P f args wb L (tag K1) (tag Kp):=by
 cases r with
 | ok x q =>
  refine callX_pan (S:=fun v L'=>∃ K,q≤s.length∧S x v K∧(∀ b∈K,wb.heap.size≤b.1)∧L'=W q K) (SP:=fun _ _=>False) (fun w hw=>(h w hw).mono fun e w' hx=>?_) (fun v L' hx=>?_) (fun _ _ hx=>hx.elim)
  ·obtain ⟨v,K,rfl,h2,h3,h4,h5⟩:=hx
   exact .inl ⟨v,_,rfl,hW q K w' h5,K,h2,h3,h4,rfl⟩
  ·obtain ⟨K,h2,h3,h4,rfl⟩:=hx
   exact hk x q v K rfl h2 h3 h4
 | no er q =>
  refine callX_pan (S:=fun _ _=>False) (SP:=fun ch L'=>∃ K:Own,ch=[wrongE er q]∧(∀ b∈K,wb.heap.size≤b.1)∧L'=K++M) (fun w hw=>(h w hw).mono fun e w' hx=>?_) (fun _ _ hx=>hx.elim) (fun ch L' hx=>?_)
  ·obtain ⟨K,rfl,h1,h2⟩:=hx
   exact .inr ⟨_,_,rfl,h2,K,rfl,h1,rfl⟩
  ·obtain ⟨K,rfl,h1,rfl⟩:=hx
   exact hp er q K rfl h1
def VlS (v:Vl) (u:Value) (K:Own):Prop:=∃ its a c,ZeV v its a c∧u=.agg (v.cells a c).toArray∧K=ownR its
def LsS (l:List Vl) (u:Value) (K:Own):Prop:=∃ (x:Rw) (its:List Rw),x.OK∧x.n=l.length∧ZeK l its (x.cs.take (x.n * 4))∧u=x.way∧K=x.own++ownR its
def PaOK (d:Nat):Prop:=∀ (wb w:World) (lo pb:Nat) (s:List UInt8) (p:Nat) (M:Own) (ind:Bool) (f:Fld) (a:Option Addr) (c:Nat),LibV wb→TabsAt wb→lo≤wb.heap.size→okT d ind f→FlAt wb lo f a c→s.length≤65536→p≤s.length→wb.heap.size≤pb→(∀ b∈M,wb.heap.size≤b.1)→Sy wb (oPs pb s p::M) w →
 Calls Tryz.prog 32 #[pPs pb,.agg (f.cells a c).toArray] w (PVR wb pb s M (readV s d f p) VlS)
theorem zapp {w:World} {N:Own} {x:Rw} {its its2:List Rw} {b7 pb:Nat} {o:Nat×Obj} {v:Vl} {a2:Option Addr} {c2:Nat} {K:Value→World→Own→Prop} {ty:TypeId} (h7:w.heap.size≤b7) (hx:x.OK) (hxn:∀ p∈x.own,w.heap.size≤p.1) (hsm:x.n+1≤1000000) {n:Nat} (hn:x.n=n)
 (hK:∀ (x':Rw) (L':Own),x'.OK→x'.n=n+1→x'.cs.take (x'.n * 4)=x.cs.take (x.n * 4)++v.cells a2 c2→(∀ p∈x'.own,w.heap.size≤p.1)→(∀ w',Sy w L' w'→Sy w (o::((x'.own++ownR (its++its2))++N)) w')→K (.slice x'.at_ (n+1:Nat) x'.c) w L') :
 ValX Tryz.prog (Builtin.append_ #[27,27] ty #[.slice x.at_ n x.c,.slice (some ⟨b7,0,none⟩) 1 1]) w ((b7,Obj.cells (v.cells a2 c2).toArray 29 (0,0))::o::(ownR its2++((x.own++ownR its)++N))) (tag K):=by
 subst hn
 have hcl:(v.cells a2 c2).length=1 * 4:=rfl
 refine valX_weak (L':=x.own++((b7,Obj.cells (v.cells a2 c2).toArray 29 (0,0))::o::(ownR its++(ownR its2++N)))) (fun w hw=>hw.perm ?_) (appendI un_27 infoVal rfl (m:=1) (news:=v.cells a2 c2) (RowO.frame (Rw.row hx hxn)) hcl (CanRead.of_own (e:=29) (b:=b7) (cs:=v.cells a2 c2) (n:=4) (List.mem_append_right _ (.head _)) rfl rfl) (by simp[Vl.cells,Value.oneCell']) (by simp only[maxLen]; omega) (by omega) (fun v' L' hr' _=>?_))
 ·exact pC
 obtain ⟨R',rfl,hR'⟩:=RowO.unframe hr'
 obtain ⟨x',q1,q2,rfl,rfl,q3,q4⟩:=RowO.rw hR'
 have ew:x'.way=.slice x'.at_ (x.n+1:Nat) x'.c:=by rw[← q2]; rfl
 rw[ew]
 refine hK x' _ q1 q2 q3 q4 fun w' hw=>?_
 have h1:=hw.mid x'.own [_] (C:=o::(ownR its++(ownR its2++N))) (fun p hp=>by rw[List.mem_singleton.1 hp]; exact h7)
 refine h1.perm ?_
 rw[ownR_append]
 exact pC
structure ItP (w0:World) (pb:Nat) (s:List UInt8) (M:Own) (b3:Nat) (k wd:Int) (R:Nat→PV Vl) (r:PV (List Vl)) (q:Nat) (i:Nat) (wb:World) (e:Env) (ds:List Deferred) (L:Own):Prop where
 hw:wb=w0
 hds:ds=[]
 h0:e 0=pPs pb
 h3:e 3=.pointer (some ⟨b3,0,none⟩)
 o:∃ (q:Nat) (l:List Vl) (x:Rw) (its:List Rw),q≤s.length∧l.length=i∧x.OK∧x.n=l.length∧ZeK l its (x.cs.take (x.n * 4))∧(∀ p∈x.own,w0.heap.size≤p.1)∧(∀ p∈ownR its,w0.heap.size≤p.1)∧e 5=x.way∧L=oPs pb s q::((x.own++ownR its)++M)∧r=(itemsV s k wd R (4200 - i) i q).and fun l' q=>.ok (l++l') q
 hi:i≤4096
 h16:k=16→(i:Int)≤wd
def nextV (s:List UInt8) (k wd:Int) (R:Nat→PV Vl) (m i q:Nat):PV (List Vl):=if k=15∧i=4096 then .no 3 q else (R q).and fun v r2=>(itemsV s k wd R m (i+1) r2).and fun l r3=>.ok (v::l) r3
theorem items_next {s:List UInt8} {k wd:Int} {R:Nat→PV Vl} {m i q:Nat} (h1:¬ (k=16∧(i:Int)=wd)) (h2:¬ (k=15∧s[q]?=some 93)):itemsV s k wd R (m+1) i q=((if i=0 then .ok () q else mustV s [44] q:PV Unit)).and fun _ r=>nextV s k wd R m i r:=by
 rw[itemsV,if_neg h1,if_neg h2]
 rfl
structure ItJ (w0:World) (pb:Nat) (s:List UInt8) (M:Own) (b3:Nat) (k wd:Int) (R:Nat→PV Vl) (r:PV (List Vl)) (l:List Vl) (x:Rw) (its:List Rw) (wb:World) (e:Env) (ds:List Deferred) (L:Own):Prop where
 hw:wb=w0
 hds:ds=[]
 h0:e 0=pPs pb
 h3:e 3=.pointer (some ⟨b3,0,none⟩)
 h5:e 5=.slice x.at_ l.length x.c
 o:∃ q:Nat,q≤s.length∧L=oPs pb s q::((x.own++ownR its)++M)∧r=(nextV s k wd R (4199 - l.length) l.length q).and fun l' q=>.ok (l++l') q
 h16:k=16→(l.length:Int) < wd
theorem items_step (d:Nat) (hP:PaOK d) (wb w:World) (lo pb:Nat) (s:List UInt8) (p:Nat) (M:Own) (ind:Bool) (f:Fld) (a:Option Addr) (c:Nat) (hl:LibV wb) (hTb:TabsAt wb) (hlo:lo≤wb.heap.size) (hok:okT (d+1) ind f) (hk:f.k=15∨f.k=16) (hA:FlAt wb lo f a c) (hs:s.length≤65536) (hp:p≤s.length) (hpb:wb.heap.size≤pb) (hM:∀ b∈M,wb.heap.size≤b.1) (hw:Sy wb (oPs pb s p::M) w) :
 Calls Tryz.prog 72 #[pPs pb,.agg (f.tcells a c).toArray] w (PVR wb pb s M ((mustV s [91] p).and fun _ r=>itemsV s f.k f.wd (fun r=>match f.sub[0]? with|some g=>readV s d g r|none=>.no 8 r) 4200 0 r) LsS):=by
 obtain ⟨g,hg⟩:∃ g,f.sub[0]?=some g:=by
  have h1:=hok.1.1.2.2.2.1
  exact ⟨_,List.getElem?_eq_getElem (by rcases hk with hk|hk<;>rw[hk] at h1<;>simp[leastK] at h1<;>omega)⟩
 have hgm:=List.mem_of_getElem? hg
 have hpos:0 < f.sub.length:=(List.getElem?_eq_some_iff.1 hg).1
 have hwd:f.k=16→1≤f.wd∧f.wd≤64:=fun h=>by
  have h1:=hok.1.1.2.1
  rw[h] at h1
  exact h1
 obtain ⟨R,hR⟩:∃ R:Nat→PV Vl,(fun r=>match f.sub[0]? with|some g=>readV s d g r|none=>.no 8 r)=R:=⟨_,rfl⟩
 have hRg:∀ r,R r=readV s d g r:=fun r=>by rw[← hR]; simp only[hg]
 rw[hR]
 refine enterB (args:=[pPs pb,.agg (f.tcells a c).toArray]) Tryz.func72 rfl Tryz.ntmps72 (congrArg Array.toList Tryz.results72) (by kernel_rfl) (by simp) hw ?_
 simp (disch:=omega) only[push_cast,qE,Fld.tcells]
 refine newI (fun b3 hb3 hn3=>?_)
 simp (disch:=omega) only[push_cast,qE,Fld.tcells]
 obtain ⟨o3,ho3⟩:∃ o,o=(qb1 b3 f a c):=⟨_,rfl⟩
 have hM3:∀ b∈o3::M,wb.heap.size≤b.1:=fun b hb=>by
  rcases List.mem_cons.1 hb with rfl|hb
  ·rw[ho3]; exact hb3
  ·exact hM b hb
 refine callV en_101 (callX_weak (L':=oPs pb s p::o3::M) (fun w hw=>by rw[ho3]; exact hw.perm (List.Perm.swap _ _ _)) (callX_pv (M:=o3::M) (fun w' hw'=>must_walk wb w' pb s p (o3::M) 91 91 rfl hs hp hpb hw') (fun x q v K hr hq hS hK=>?_) (fun er q K hr hK=>?_)))
 rotate_left
 ·refine sp ?_
  exact fun w' hw'=>PVR.fall (K++[o3]) (by rw[hr,PV.and_no]) (fun b hb=>by
   rcases List.mem_append.1 hb with hb|hb
   ·exact hK b hb
   ·rw[List.mem_singleton.1 hb]; exact hM3 _ (.head _)) (by simpa [List.append_assoc] using hw')
 obtain ⟨rfl,rfl⟩:=hS
 rw[hr,PV.and_ok]
 obtain ⟨r0,hr0⟩:∃ r0,itemsV s f.k f.wd R 4200 0 q=r0:=⟨_,rfl⟩
 rw[hr0]
 refine sp ?_
 rw[Vb]
 refine sp ?_
 refine loopW (G:=Nat) (ItP wb pb s (o3::M) b3 f.k f.wd R r0 q) (fun i=>4200 - i) 0 _ (fun w hw=>hw) (by kernel_rfl) ⟨rfl,rfl,rfl,rfl,⟨q,[],⟨none,0,0,[]⟩,[],hq,rfl,.inl ⟨rfl,rfl,rfl⟩,rfl,ZeK.nil,by simp[Rw.own],by simp[ownR],rfl,rfl,?_⟩,by omega,fun h=>by have:=(hwd h).1; omega⟩ ?_
 ·simp only[List.nil_append]
  rw[← hr0]
  show _=(itemsV s f.k f.wd R 4200 0 q).and _
  cases itemsV s f.k f.wd R 4200 0 q<;>rfl
 clear hw hr hn3 hr0
 rintro i wb e ds L ⟨rfl,rfl,h0,h3,⟨q,l,x,its,hq,hli,hx,hxl,hZ,hxn,hin,h5,rfl,hr⟩,hi,h16⟩
 subst hli
 replace h5:e 5=.slice x.at_ x.n x.c:=h5
 rw[hxl] at h5
 have hKn:∀ {K:Own},(∀ b∈K,wb.heap.size≤b.1)→∀ b∈K++((x.own++ownR its)++[o3]),wb.heap.size≤b.1:=fun hK b hb=>by
  simp only[List.mem_append,List.mem_singleton] at hb
  rcases hb with hb|(hb|hb)|hb
  ·exact hK b hb
  ·exact hxn b hb
  ·exact hin b hb
  ·rw[hb]; exact hM3 _ (.head _)
 have hmv:∀ {K:Own} {w':World},Sy wb (K++((x.own++ownR its)++o3::M)) w'→Sy wb ((K++((x.own++ownR its)++[o3]))++M) w':=fun h=>by simpa [List.append_assoc] using h
 have hnew:∀ q',∀ b∈oPs pb s q'::((x.own++ownR its)++o3::M),wb.heap.size≤b.1:=fun q' b hb=>by
  rcases List.mem_cons.1 hb with rfl|hb
  ·exact hpb
  ·exact (List.mem_append.1 hb).elim (fun hb=>(List.mem_append.1 hb).elim (hxn b) (hin b)) (hM3 b)
 have m3:∀ q',(qb1 b3 f a c)∈oPs pb s q'::((x.own++ownR its)++o3::M):=fun q'=>by first|(rw[← ho3]; exact .tail _ (List.mem_append_right _ (.head _)))|(subst ho3; exact .tail _ (List.mem_append_right _ (.head _)))
 have fin:∀ q',q'≤s.length→itemsV s f.k f.wd R (4200 - l.length) l.length q=.ok [] q'→∀ w',Sy wb (oPs pb s q'::((x.own++ownR its)++o3::M)) w'→PVR wb pb s M r0 LsS (.returned (.slice x.at_ l.length x.c)) w':=fun q' hq' he w' hw'=>by
  refine PVR.leaf (x:=l) (q:=q') _ (x.own++ownR its) (by rw[hr,he,PV.and_ok,List.append_nil]) hq' ⟨x,its,hx,hxl,hZ,by rw[← hxl]; rfl,rfl⟩ (fun b hb=>(List.mem_append.1 hb).elim (hxn b) (hin b)) ?_
  exact (by simpa [List.append_assoc] using hw':Sy wb ((oPs pb s q'::(x.own++ownR its))++([o3]++M)) w').mid (oPs pb s q'::(x.own++ownR its)) [o3] (fun b hb=>by rw[List.mem_singleton.1 hb]; exact hM3 _ (.head _))
 rw[Vb]
 simp (disch:=omega) only[push_cast,qE,h0,h3,h5]
 refine callV en_102 (cIs (fun w' hw'=>byte_walk w' pb s q (At.of_own hw' mem0 rfl)) ?_)
 simp (disch:=omega) only[push_cast,qE,h0,h3,h5]
 have hm1:4200 - l.length=(4199 - l.length)+1:=by omega
 have comma:¬ (f.k=16∧(l.length:Int)=f.wd)→¬ (f.k=15∧s[q]?=some 93)→r0=(((if l.length=0 then .ok () q else mustV s [44] q:PV Unit)).and fun _ r=>nextV s f.k f.wd R (4199 - l.length) l.length r).and fun l' q=>.ok (l++l') q:=fun h1 h2=>by rw[hr,hm1,items_next h1 h2]
 refine cutV (ItJ wb pb s (o3::M) b3 f.k f.wd R r0 l x its) ?_ ?_
 ·rw[Vb]
  simp (disch:=omega) only[push_cast,qE,h0,h3,h5]
  refine lOn Shp.eq (m3 q) rfl ?_
  rcases hk with hk|hk
  ·simp (disch:=omega) only[push_cast,qE,h0,h3,h5,hk]
   refine gT rfl (fun h=>absurd h (by omega)) (fun _=>?_)
   simp (disch:=omega) only[push_cast,qE,h0,h3,h5,hk]
   rw[Vc]
   simp (disch:=omega) only[push_cast,qE,h0,h3,h5,hk]
   refine lOn Shp.eq (m3 q) rfl ?_
   simp (disch:=omega) only[push_cast,qE,h0,h3,h5,hk]
   refine gT rfl (fun _=>?_) (fun h=>absurd trivial h)
   simp (disch:=omega) only[push_cast,qE,h0,h3,h5,hk]
   refine gT rfl (fun hlt=>?_) (fun hge=>?_)
   ·have hgc:((s.getD q 0).toNat:Int)=93↔s[q]?=some 93:=by
     rw[getD_at hlt]
     exact ⟨fun e=>by rw[show s.getD q 0=93 from UInt8.toNat_inj.1 (by rw[show (93:UInt8).toNat=93 from rfl]; omega)],fun e=>by rw[Option.some.inj e]; rfl⟩
    simp (disch:=omega) only[push_cast,qE,h0,h3,h5,hk]
    rw[Vc]
    simp (disch:=omega) only[push_cast,qE,h0,h3,h5,hk]
    refine cdD (fun h93=>?_) (fun h93=>?_)
    ·have h93':=hgc.1 h93
     simp (disch:=omega) only[push_cast,qE,h0,h3,h5]
     refine callV en_101 (callX_pv (M:=(x.own++ownR its)++o3::M) (fun w' hw'=>must_walk wb w' pb s q _ 93 93 rfl hs hq hpb hw') (fun u q1 v K hr1 hq1 hS hK=>?_) (fun er q1 K hr1 hK=>?_))
     ·obtain ⟨rfl,rfl⟩:=hS
      simp (disch:=omega) only[push_cast,qE,h5]
      exact fin q1 hq1 (by rw[hm1,itemsV,if_neg (by omega),if_pos ⟨hk,h93'⟩,(mustV_some hr1).2]; rfl)
     ·refine sp ?_
      exact fun w' hw'=>absurd hr1 (by rw[mustV_yes (t:=[93]) (cons_drop h93')]; simp)
    ·have hcm:=comma (by omega) (fun h=>h93 (hgc.2 h.2))
     simp (disch:=omega) only[push_cast,qE,h0,h3,h5]
     rw[Vc]
     simp (disch:=omega) only[push_cast,qE,h0,h3,h5]
     refine cdD (fun hp0=>?_) (fun hp0=>?_)
     ·simp (disch:=omega) only[push_cast,qE,h0,h3,h5]
      refine callV en_101 (callX_pv (M:=(x.own++ownR its)++o3::M) (fun w' hw'=>must_walk wb w' pb s q _ 44 44 rfl hs hq hpb hw') (fun u q1 v K hr1 hq1 hS hK=>?_) (fun er q1 K hr1 hK=>?_))
      ·obtain ⟨rfl,rfl⟩:=hS
       simp (disch:=omega) only[push_cast,qE,h0,h3,h5]
       exact ⟨rfl,rfl,h0,h3,h5,⟨q1,hq1,rfl,by rw[hcm,if_neg (by omega),hr1,PV.and_ok]⟩,by omega⟩
      ·refine sp ?_
       exact fun w' hw'=>PVR.fall (K++((x.own++ownR its)++[o3])) (by rw[hcm,if_neg (by omega),hr1]; rfl) (hKn hK) (hmv hw')
     ·simp (disch:=omega) only[push_cast,qE,h0,h3,h5]
      exact ⟨rfl,rfl,h0,h3,h5,⟨q,hq,rfl,by rw[hcm,if_pos (by omega),PV.and_ok]⟩,by omega⟩
   ·have hcm:=comma (by omega) (fun h=>by have:=(List.getElem?_eq_some_iff.1 h.2).1; omega)
    simp (disch:=omega) only[push_cast,qE,h0,h3,h5,hk]
    rw[Vc]
    simp (disch:=omega) only[push_cast,qE,h0,h3,h5]
    rw[Vc]
    simp (disch:=omega) only[push_cast,qE,h0,h3,h5]
    refine cdD (fun hp0=>?_) (fun hp0=>?_)
    ·simp (disch:=omega) only[push_cast,qE,h0,h3,h5]
     refine callV en_101 (callX_pv (M:=(x.own++ownR its)++o3::M) (fun w' hw'=>must_walk wb w' pb s q _ 44 44 rfl hs hq hpb hw') (fun u q1 v K hr1 hq1 hS hK=>?_) (fun er q1 K hr1 hK=>?_))
     ·obtain ⟨rfl,rfl⟩:=hS
      simp (disch:=omega) only[push_cast,qE,h0,h3,h5]
      exact ⟨rfl,rfl,h0,h3,h5,⟨q1,hq1,rfl,by rw[hcm,if_neg (by omega),hr1,PV.and_ok]⟩,by omega⟩
     ·refine sp ?_
      exact fun w' hw'=>PVR.fall (K++((x.own++ownR its)++[o3])) (by rw[hcm,if_neg (by omega),hr1]; rfl) (hKn hK) (hmv hw')
    ·simp (disch:=omega) only[push_cast,qE,h0,h3,h5]
     exact ⟨rfl,rfl,h0,h3,h5,⟨q,hq,rfl,by rw[hcm,if_pos (by omega),PV.and_ok]⟩,by omega⟩
  ·simp (disch:=omega) only[push_cast,qE,h0,h3,h5,hk]
   refine gT rfl (fun _=>?_) (fun h=>absurd trivial h)
   simp (disch:=omega) only[push_cast,qE,h0,h3,h5,hk]
   refine lOn Shp.eq (m3 q) rfl ?_
   simp (disch:=omega) only[push_cast,qE,h0,h3,h5,hk]
   rw[Vc]
   simp (disch:=omega) only[push_cast,qE,h0,h3,h5,hk]
   have h16':=h16 hk
   refine cdD (fun hend=>?_) (fun hend=>?_)
   ·simp (disch:=omega) only[push_cast,qE,h0,h3,h5]
    rw[Vc]
    simp (disch:=omega) only[push_cast,qE,h0,h3,h5]
    refine cdD (fun _=>?_) (fun h=>absurd hend h)
    simp (disch:=omega) only[push_cast,qE,h0,h3,h5]
    refine callV en_101 (callX_pv (M:=(x.own++ownR its)++o3::M) (fun w' hw'=>must_walk wb w' pb s q _ 93 93 rfl hs hq hpb hw') (fun u q1 v K hr1 hq1 hS hK=>?_) (fun er q1 K hr1 hK=>?_))
    ·obtain ⟨rfl,rfl⟩:=hS
     simp (disch:=omega) only[push_cast,qE,h5]
     exact fin q1 hq1 (by rw[hm1,itemsV,if_pos ⟨hk,hend⟩,hr1]; rfl)
    ·refine sp ?_
     exact fun w' hw'=>PVR.fall (K++((x.own++ownR its)++[o3])) (by rw[hr,hm1,itemsV,if_pos ⟨hk,hend⟩,hr1]; rfl) (hKn hK) (hmv hw')
   ·have hcm:=comma (fun h=>hend h.2) (by omega)
    simp (disch:=omega) only[push_cast,qE,h0,h3,h5,hk]
    refine lOn Shp.eq (m3 q) rfl ?_
    simp (disch:=omega) only[push_cast,qE,h0,h3,h5,hk]
    refine gT rfl (fun h=>absurd h (by omega)) (fun _=>?_)
    simp (disch:=omega) only[push_cast,qE,h0,h3,h5,hk]
    rw[Vc]
    simp (disch:=omega) only[push_cast,qE,h0,h3,h5]
    rw[Vc]
    simp (disch:=omega) only[push_cast,qE,h0,h3,h5]
    refine cdD (fun hp0=>?_) (fun hp0=>?_)
    ·simp (disch:=omega) only[push_cast,qE,h0,h3,h5]
     refine callV en_101 (callX_pv (M:=(x.own++ownR its)++o3::M) (fun w' hw'=>must_walk wb w' pb s q _ 44 44 rfl hs hq hpb hw') (fun u q1 v K hr1 hq1 hS hK=>?_) (fun er q1 K hr1 hK=>?_))
     ·obtain ⟨rfl,rfl⟩:=hS
      simp (disch:=omega) only[push_cast,qE,h0,h3,h5]
      exact ⟨rfl,rfl,h0,h3,h5,⟨q1,hq1,rfl,by rw[hcm,if_neg (by omega),hr1,PV.and_ok]⟩,by omega⟩
     ·refine sp ?_
      exact fun w' hw'=>PVR.fall (K++((x.own++ownR its)++[o3])) (by rw[hcm,if_neg (by omega),hr1]; rfl) (hKn hK) (hmv hw')
    ·simp (disch:=omega) only[push_cast,qE,h0,h3,h5]
     exact ⟨rfl,rfl,h0,h3,h5,⟨q,hq,rfl,by rw[hcm,if_pos (by omega),PV.and_ok]⟩,by omega⟩
 clear h0 h3 h5 e
 rintro wb e ds L ⟨rfl,rfl,h0,h3,h5,⟨q1,hq1,rfl,hr1⟩,h16'⟩
 clear comma fin hr hq
 obtain ⟨gb,goff,ga,gc,rfl,g1,g2,g3⟩:=hA.get hg
 rw[Nat.zero_mul,Nat.add_zero] at g2
 rw[V_seq]
 refine cutV (fun wb' e' ds' L'=>¬ (f.k=15∧l.length=4096)∧ItJ wb pb s (o3::M) b3 f.k f.wd R r0 l x its wb' e' ds' L') ?_ ?_
 ·simp (disch:=omega) only[push_cast,qE,h0,h3,h5]
  refine lOn Shp.eq (m3 q1) rfl ?_
  simp (disch:=omega) only[push_cast,qE,h0,h3,h5]
  refine gT rfl (fun hk15=>?_) (fun hk15=>?_)
  ·simp (disch:=omega) only[push_cast,qE,h0,h3,h5]
   rw[Vc]
   simp (disch:=omega) only[push_cast,qE,h0,h3,h5]
   refine cdD (fun hf=>?_) (fun hf=>?_)
   ·have hfl:nextV s f.k f.wd R (4199 - l.length) l.length q1=.no 3 q1:=by unfold nextV; rw[if_pos ⟨hk15,by omega⟩]
    simp (disch:=omega) only[push_cast,qE,h0,h3,h5]
    refine lOn Shp.eq mem0 rfl ?_
    simp (disch:=omega) only[push_cast,qE,h0,h3,h5]
    refine ⟨_,_,rfl,?_⟩
    refine sp ?_
    exact fun w' hw'=>PVR.fall ([oPs pb s q1]++((x.own++ownR its)++[o3])) (by rw[hr1,hfl]; rfl) (hKn (K:=[oPs pb s q1]) (fun b hb=>by rw[List.mem_singleton.1 hb]; exact hpb)) (hmv (K:=[oPs pb s q1]) hw')
   ·simp (disch:=omega) only[push_cast,qE,h0,h3,h5]
    exact ⟨fun h=>hf (by omega),rfl,rfl,h0,h3,h5,⟨q1,hq1,rfl,hr1⟩,h16'⟩
  ·simp (disch:=omega) only[push_cast,qE,h0,h3,h5]
   rw[Vc]
   simp (disch:=omega) only[push_cast,qE,h0,h3,h5]
   exact ⟨fun h=>hk15 h.1,rfl,rfl,h0,h3,h5,⟨q1,hq1,rfl,hr1⟩,h16'⟩
 clear h0 h3 h5 hr1 hq1 e q1
 rintro wb e ds L ⟨hf,rfl,rfl,h0,h3,h5,⟨q1,hq1,rfl,hr1⟩,h16'⟩
 simp (disch:=omega) only[push_cast,qE,h0,h3,h5]
 refine lOn Shp.eq (m3 q1) rfl ?_
 simp (disch:=omega) only[push_cast,qE,h0,h3,h5]
 refine ldAggF Shp.eq g2 rfl (out_of (fun b hb=>Nat.lt_of_lt_of_le (Nat.lt_of_lt_of_le g1 hlo) (hnew q1 b hb))) ?_
 simp (disch:=omega) only[push_cast,qE,h0,h3,h5,Fld.cells]
 have hnx:nextV s f.k f.wd R (4199 - l.length) l.length q1=(readV s d g q1).and fun v r2=>(itemsV s f.k f.wd R (4199 - l.length) (l.length+1) r2).and fun l r3=>.ok (v::l) r3:=by unfold nextV; rw[if_neg hf,hRg]
 refine callV en_32 (callX_pv (M:=(x.own++ownR its)++o3::M) (fun w' hw'=>hP wb w' lo pb s q1 ((x.own++ownR its)++o3::M) _ g ga gc hl hTb hlo (hok.2 g hgm) g3 hs hq1 hpb (fun b hb=>hnew 0 b (.tail _ hb)) hw') (fun v q2 u K hr2 hq2 hS hK=>?_) (fun er q2 K hr2 hK=>?_))
 rotate_left
 ·refine sp ?_
  exact fun w' hw'=>PVR.fall (K++((x.own++ownR its)++[o3])) (by rw[hr1,hnx,hr2]; rfl) (hKn hK) (hmv hw')
 obtain ⟨its2,a2,c2,hv,rfl,rfl⟩:=hS
 simp (disch:=omega) only[push_cast,qE,h0,h3,h5,Vl.cells]
 refine bs_27_1 (newI fun b7 hb7 hn7=>?_)
 simp (disch:=omega) only[push_cast,qE,h0,h3,h5]
 refine zapp (x:=x) (its:=its) (its2:=its2) (v:=v) (a2:=a2) (c2:=c2) (o:=oPs pb s q2) (N:=o3::M) (pb:=0) hb7 hx hxn (by omega) hxl (fun x' L' z1 z2 z3 z4 z5=>?_)
 have hi2:∀ b∈ownR (its++its2),wb.heap.size≤b.1:=(by rw[ownR_append]; exact (fun p hp=>(List.mem_append.1 hp).elim (hin p) (hK p)))
 simp (disch:=omega) only[push_cast,qE,h0,h3]
 refine ⟨l.length+1,oPs pb s q2::((x'.own++ownR (its++its2))++o3::M),z5,⟨rfl,rfl,h0,h3,⟨q2,l++[v],x',its++its2,hq2,by simp,z1,by rw[z2]; simp,by rw[z3]; exact ZeK.append (ZeK.single hv) hZ,z4,hi2,?_,rfl,?_⟩,?_,fun h=>by have:=h16' h; omega⟩,by omega⟩
 ·rw[Rw.way,z2]; rfl
 ·rw[hr1,hnx,hr2,PV.and_ok,PV.and_and,show 4199 - l.length=4200 - (l.length+1) by omega]
  simp only[PV.and_ok,List.append_assoc,List.singleton_append]
 ·rcases hk with hk|hk
  ·have:¬ l.length=4096:=fun h=>hf ⟨hk,h⟩
   omega
  ·have:=h16' hk
   have:=hwd hk
   omega
end Go.Proofs.YtilejcofleeeiaaGreatDoor
