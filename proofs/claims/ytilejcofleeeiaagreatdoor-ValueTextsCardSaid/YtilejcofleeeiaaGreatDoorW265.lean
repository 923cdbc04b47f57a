/- YtilejcofleeeiaaGreatDoor: walks, part 265: the append of a value that was read to a value's list, its steps in any order. -/
import Derived.Test.YtilejcofleeeiaaGreatDoorW256
namespace Go.Proofs.YtilejcofleeeiaaGreatDoor
open Go Go.K
open List renaming mem_cons → qM, mem_append → qP
set_option maxRecDepth 100000
set_option linter.unusedVariables false
set_option linter.unusedSimpArgs false
set_option maxHeartbeats 4000000
def oVn (nu:Int) (b:Nat) (sl:Value):Nat×Obj:=(b,Obj.cells #[.bool false,i64 nu,str [],sl] 29 (0,0))
structure GotV where
 p:Nat
 er:Int
 bd:Nat
 y:Vl
 a2:Option Addr
 c2:Nat
 K:Own
def ZbS (w:World) (B0:Own) (B:GotV→Own) (x:Rw) (A:Own) (nu:Int) (b4:Nat) (Out:GotV→Prop) (e6 e7 e8:Value) (L:Own):Nat→Prop
 | 0=>L=x.own++(A++oVn nu b4 x.way::B0)
 | 1=>∃ (g:GotV),Out g∧(∀ p∈g.K,w.heap.size≤p.1)∧e6=.agg (g.y.cells g.a2 g.c2).toArray∧L=g.K++(x.own++(A++oVn nu b4 x.way::B g))
 | 2=>∃ (g:GotV) (b7:Nat),Out g∧(∀ p∈g.K,w.heap.size≤p.1)∧w.heap.size≤b7∧e7=.slice (some ⟨b7,0,none⟩) 1 1∧L=(b7,Obj.cells (g.y.cells g.a2 g.c2).toArray 29 (0,0))::(g.K++(x.own++(A++oVn nu b4 x.way::B g)))
 | 3=>∃ (g:GotV) (x':Rw),Out g∧(∀ p∈g.K,w.heap.size≤p.1)∧x'.OK∧x'.n=x.n+1∧x'.cs.take (x'.n * 4)=x.cs.take (x.n * 4)++g.y.cells g.a2 g.c2∧(∀ p∈x'.own,w.heap.size≤p.1)∧e8=x'.way∧L=oVn nu b4 x.way::(x'.own++(A++(g.K++B g)))
 | _=>∃ (g:GotV) (x':Rw),Out g∧(∀ p∈g.K,w.heap.size≤p.1)∧x'.OK∧x'.n=x.n+1∧x'.cs.take (x'.n * 4)=x.cs.take (x.n * 4)++g.y.cells g.a2 g.c2∧(∀ p∈x'.own,w.heap.size≤p.1)∧L=oVn nu b4 x'.way::(x'.own++(A++(g.K++B g)))
theorem ZbS.base_mem {w:World} {B0:Own} {B:GotV→Own} {x:Rw} {A:Own} {nu:Int} {b4:Nat} {Out:GotV→Prop} {e6 e7 e8:Value} {L:Own} {p:Nat×Obj} (h0:p∈B0) (hB:∀ g,p∈B g):∀ {s:Nat},ZbS w B0 B x A nu b4 Out e6 e7 e8 L s→p∈L
 | 0,h=>by rw[show L=_ from h]; simp[h0]
 | 1,h=>by obtain ⟨g,_,_,_,rfl⟩:=h; simp[hB g]
 | 2,h=>by obtain ⟨g,_,_,_,_,_,rfl⟩:=h; simp[hB g]
 | 3,h=>by obtain ⟨g,_,_,_,_,_,_,_,_,rfl⟩:=h; simp[hB g]
 | _+4,h=>by obtain ⟨g,_,_,_,_,_,_,_,rfl⟩:=h; simp[hB g]
theorem ZbS.v_mem {w:World} {B0:Own} {B:GotV→Own} {x:Rw} {A:Own} {nu:Int} {b4:Nat} {Out:GotV→Prop} {e6 e7 e8:Value} {L:Own}:∀ {s:Nat},s≤3→ZbS w B0 B x A nu b4 Out e6 e7 e8 L s→oVn nu b4 x.way∈L
 | 0,_,h=>by rw[show L=_ from h]; simp
 | 1,_,h=>by obtain ⟨g,_,_,_,rfl⟩:=h; simp
 | 2,_,h=>by obtain ⟨g,_,_,_,_,_,rfl⟩:=h; simp
 | 3,_,h=>by obtain ⟨g,_,_,_,_,_,_,_,_,rfl⟩:=h; simp
 | _+4,hs,_=>by omega
theorem ZbS.new {w:World} {B0:Own} {B:GotV→Own} {x:Rw} {A:Own} {nu:Int} {b4:Nat} {Out:GotV→Prop} {e6 e7 e8:Value} {L:Own} (hb0:∀ p∈B0,w.heap.size≤p.1) (hb:∀ g,∀ p∈B g,w.heap.size≤p.1) (hx:∀ p∈x.own,w.heap.size≤p.1) (hi:∀ p∈A,w.heap.size≤p.1) (h4:w.heap.size≤b4):∀ {s:Nat},ZbS w B0 B x A nu b4 Out e6 e7 e8 L s→∀ p∈L,w.heap.size≤p.1:=by
 intro s h p hp
 match s,h with
 | 0,h =>
  rw[show L=_ from h] at hp
  simp only[qP,qM] at hp
  rcases hp with hp|hp|rfl|hp
  ·exact hx p hp
  ·exact hi p hp
  ·exact h4
  ·exact hb0 p hp
 | 1,h =>
  obtain ⟨g,_,h2,_,rfl⟩:=h
  simp only[qP,qM] at hp
  rcases hp with hp|hp|hp|rfl|hp
  ·exact h2 p hp
  ·exact hx p hp
  ·exact hi p hp
  ·exact h4
  ·exact hb g p hp
 | 2,h =>
  obtain ⟨g,_,_,h2,h7,_,rfl⟩:=h
  simp only[qP,qM] at hp
  rcases hp with rfl|hp|hp|hp|rfl|hp
  ·exact h7
  ·exact h2 p hp
  ·exact hx p hp
  ·exact hi p hp
  ·exact h4
  ·exact hb g p hp
 | 3,h =>
  obtain ⟨g,_,_,h2,_,_,_,hx',_,rfl⟩:=h
  simp only[qP,qM] at hp
  rcases hp with rfl|hp|hp|hp|hp
  ·exact h4
  ·exact hx' p hp
  ·exact hi p hp
  ·exact h2 p hp
  ·exact hb g p hp
 | _+4,h =>
  obtain ⟨g,_,_,h2,_,_,_,hx',rfl⟩:=h
  simp only[qP,qM] at hp
  rcases hp with rfl|hp|hp|hp|hp
  ·exact h4
  ·exact hx' p hp
  ·exact hi p hp
  ·exact h2 p hp
  ·exact hb g p hp
theorem ZbS.app {w:World} {B0:Own} {B:GotV→Own} {x:Rw} {A:Own} {nu:Int} {b4:Nat} {Out:GotV→Prop} {e6 e7 e8:Value} {L:Own} {K:Value→World→Own→Prop} {ty:TypeId} (h:ZbS w B0 B x A nu b4 Out e6 e7 e8 L 2) (hx:x.OK) (hxn:∀ p∈x.own,w.heap.size≤p.1) (hsm:x.n+1≤1000000)
 (hK:∀ (x':Rw) (L' L'':Own),(∀ w',Sy w L' w'→Sy w L'' w')→ZbS w B0 B x A nu b4 Out e6 e7 x'.way L'' 3→K x'.way w L'):ValX Tryz.prog (Builtin.append_ #[27,27] ty #[x.way,e7]) w L (tag K):=by
 obtain ⟨g,b7,hv,hi2,h7,rfl,rfl⟩:=h
 have hcl:(g.y.cells g.a2 g.c2).length=1 * 4:=rfl
 refine valX_weak (L':=x.own++((b7,Obj.cells (g.y.cells g.a2 g.c2).toArray 29 (0,0))::(g.K++(A++oVn nu b4 x.way::B g)))) (fun w hw=>hw.perm ?_) (appendI un_27 infoVal rfl (m:=1) (news:=g.y.cells g.a2 g.c2) (RowO.frame (Rw.row hx hxn)) hcl (CanRead.of_own (e:=29) (b:=b7) (cs:=g.y.cells g.a2 g.c2) (n:=4) (List.mem_append_right _ (.head _)) rfl rfl) (by simp[Vl.cells,Value.oneCell']) (by simp only[maxLen]; omega) (by omega) (fun v' L' hr' _=>?_))
 ·exact ((List.perm_append_comm_assoc (g.K) x.own _).cons _).trans List.perm_middle.symm
 obtain ⟨R',rfl,hR'⟩:=RowO.unframe hr'
 obtain ⟨x',q1,q2,rfl,rfl,q3,q4⟩:=RowO.rw hR'
 refine hK x' _ (oVn nu b4 x.way::(x'.own++(A++(g.K++B g)))) (fun w' hw=>?_) ⟨g,x',hv,hi2,q1,q2,q3,q4,rfl,rfl⟩
 have h1:=hw.mid x'.own [_] (C:=g.K++(A++oVn nu b4 x.way::B g)) (fun p hp=>by rw[List.mem_singleton.1 hp]; exact h7)
 refine h1.perm ?_
 refine (List.Perm.append_left x'.own ((List.Perm.append_left (g.K) List.perm_middle).trans (List.perm_middle.trans ((List.perm_append_comm_assoc (g.K) (A) (B g)).cons _)))).trans List.perm_middle
structure ZbR (w:World) (B0:Own) (B:GotV→Own) (x:Rw) (A:Own) (nu:Int) (b4:Nat) (Out:GotV→Prop) (E0:Env→Prop) (t1 t6 t7 t8 tS n1 n6 n7 n8 n9 n10:Nat) (D:Nat→Bool) (e:Env) (ds:List Deferred) (L:Own):Prop where
 hds:ds=[]
 he:E0 e
 d1:D n1=true→e t1=x.way
 dc:(D n10=true→D n8=true)∧(D n8=true→D n7=true∧D n1=true)∧(D n7=true→D n6=true)
 o:ZbS w B0 B x A nu b4 Out (e t6) (e t7) (e t8) L (if D n10=true then 4 else if D n8=true then 3 else if D n7=true then 2 else if D n6=true then 1 else 0)
 d9:D n9=true→e tS=.pointer (some ⟨b4,3,none⟩)
section
variable {w:World} {B0:Own} {B:GotV→Own} {x:Rw} {A:Own} {nu:Int} {b4:Nat} {Out:GotV→Prop} {E0:Env→Prop} {t1 t6 t7 t8 tS n1 n6 n7 n8 n9 n10:Nat} {D:Nat→Bool} {e:Env} {ds:List Deferred} {L:Own}
theorem ZbR.v_mem (h:ZbR w B0 B x A nu b4 Out E0 t1 t6 t7 t8 tS n1 n6 n7 n8 n9 n10 D e ds L) (hD:D n10=false):oVn nu b4 x.way∈L:=by
 refine ZbS.v_mem ?_ h.o
 rw[if_neg (by rw[hD]; simp)]
 split
 ·omega
 split
 ·omega
 split<;>omega
theorem ZbR.s1 (h:ZbR w B0 B x A nu b4 Out E0 t1 t6 t7 t8 tS n1 n6 n7 n8 n9 n10 D e ds L) (hD:D n1=false) (hE:E0 (upd e t1 x.way)) (ht:t6≠t1∧t7≠t1∧t8≠t1) (hn:n6≠n1∧n7≠n1∧n8≠n1∧n10≠n1) (h9:n9≠n1∧tS≠t1) :
 ZbR w B0 B x A nu b4 Out E0 t1 t6 t7 t8 tS n1 n6 n7 n8 n9 n10 (fun j=>D j || j == n1) (upd e t1 x.way) ds L:=by
 have q8:D n8=false:=by cases q:D n8 with|false=>rfl|true=>have:=(h.dc.2.1 q).2; rw[hD] at this; cases this
 have q10:D n10=false:=by cases q:D n10 with|false=>rfl|true=>have:=h.dc.1 q; rw[q8] at this; cases this
 refine ⟨h.hds,hE,fun _=>by simp[upd],?_,?_,?_⟩
 ·simp only[beq_eq_false_iff_ne.2 hn.1,beq_eq_false_iff_ne.2 hn.2.1,beq_eq_false_iff_ne.2 hn.2.2.1,beq_eq_false_iff_ne.2 hn.2.2.2,Bool.or_false,beq_self_eq_true,Bool.or_true]
  exact ⟨h.dc.1,fun q=>(by rw[q8] at q; cases q),h.dc.2.2⟩
 ·have:=h.o
  simpa only[upd,if_neg ht.1,if_neg ht.2.1,if_neg ht.2.2,beq_eq_false_iff_ne.2 hn.1,beq_eq_false_iff_ne.2 hn.2.1,beq_eq_false_iff_ne.2 hn.2.2.1,beq_eq_false_iff_ne.2 hn.2.2.2,Bool.or_false] using this
 ·intro q
  simp only[beq_eq_false_iff_ne.2 h9.1,Bool.or_false] at q
  simp only[upd,if_neg h9.2]
  exact h.d9 q
theorem ZbR.s6 {g:GotV} (h:ZbR w B0 B x A nu b4 Out E0 t1 t6 t7 t8 tS n1 n6 n7 n8 n9 n10 D e ds L) (hD:D n6=false) (hv:Out g) (hi:∀ p∈g.K,w.heap.size≤p.1) (hE:E0 (upd e t6 (.agg (g.y.cells g.a2 g.c2).toArray))) (ht:t1≠t6) (hn:n1≠n6∧n7≠n6∧n8≠n6∧n10≠n6) (h9:n9≠n6∧tS≠t6) :
 ZbR w B0 B x A nu b4 Out E0 t1 t6 t7 t8 tS n1 n6 n7 n8 n9 n10 (fun j=>D j || j == n6) (upd e t6 (.agg (g.y.cells g.a2 g.c2).toArray)) ds (g.K++(x.own++(A++oVn nu b4 x.way::B g))):=by
 have q7:D n7=false:=by cases q:D n7 with|false=>rfl|true=>have:=h.dc.2.2 q; rw[hD] at this; cases this
 have q8:D n8=false:=by cases q:D n8 with|false=>rfl|true=>have:=(h.dc.2.1 q).1; rw[q7] at this; cases this
 have q10:D n10=false:=by cases q:D n10 with|false=>rfl|true=>have:=h.dc.1 q; rw[q8] at this; cases this
 have ho:=h.o
 rw[q10,q8,q7,hD] at ho
 simp only[Bool.false_eq_true,if_false] at ho
 refine ⟨h.hds,hE,fun q=>?_,?_,?_,?_⟩
 ·simp only[beq_eq_false_iff_ne.2 hn.1,Bool.or_false] at q
  simp only[upd,if_neg ht]
  exact h.d1 q
 ·simp only[beq_eq_false_iff_ne.2 hn.1,beq_eq_false_iff_ne.2 hn.2.1,beq_eq_false_iff_ne.2 hn.2.2.1,beq_eq_false_iff_ne.2 hn.2.2.2,Bool.or_false,beq_self_eq_true,Bool.or_true]
  exact ⟨h.dc.1,h.dc.2.1,fun _=>trivial⟩
 ·simp only[beq_eq_false_iff_ne.2 hn.2.1,beq_eq_false_iff_ne.2 hn.2.2.1,beq_eq_false_iff_ne.2 hn.2.2.2,Bool.or_false,beq_self_eq_true,Bool.or_true,q7,q8,q10,Bool.false_eq_true,if_false,if_true]
  exact ⟨g,hv,hi,by simp[upd],rfl⟩
 ·intro q
  simp only[beq_eq_false_iff_ne.2 h9.1,Bool.or_false] at q
  simp only[upd,if_neg h9.2]
  exact h.d9 q
theorem ZbR.zero (h:ZbR w B0 B x A nu b4 Out E0 t1 t6 t7 t8 tS n1 n6 n7 n8 n9 n10 D e ds L) (hD:D n6=false):L=x.own++(A++oVn nu b4 x.way::B0):=by
 have q7:D n7=false:=by cases q:D n7 with|false=>rfl|true=>have:=h.dc.2.2 q; rw[hD] at this; cases this
 have q8:D n8=false:=by cases q:D n8 with|false=>rfl|true=>have:=(h.dc.2.1 q).1; rw[q7] at this; cases this
 have q10:D n10=false:=by cases q:D n10 with|false=>rfl|true=>have:=h.dc.1 q; rw[q8] at this; cases this
 have ho:=h.o
 rw[q10,q8,q7,hD] at ho
 simp only[Bool.false_eq_true,if_false] at ho
 exact ho
theorem ZbR.off1 (h:ZbR w B0 B x A nu b4 Out E0 t1 t6 t7 t8 tS n1 n6 n7 n8 n9 n10 D e ds L) (hD:D n1=false):D n10=false:=by
 have q8:D n8=false:=by cases q:D n8 with|false=>rfl|true=>have:=(h.dc.2.1 q).2; rw[hD] at this; cases this
 cases q:D n10 with|false=>rfl|true=>have:=h.dc.1 q; rw[q8] at this; cases this
theorem ZbR.call (h:ZbR w B0 B x A nu b4 Out E0 t1 t6 t7 t8 tS n1 n6 n7 n8 n9 n10 D e ds L) (hD:D n6=true) (hD7:D n7=false):∃ (g:GotV),Out g∧(∀ p∈g.K,w.heap.size≤p.1)∧e t6=.agg (g.y.cells g.a2 g.c2).toArray∧L=g.K++(x.own++(A++oVn nu b4 x.way::B g)):=by
 have q8:D n8=false:=by cases q:D n8 with|false=>rfl|true=>have:=(h.dc.2.1 q).1; rw[hD7] at this; cases this
 have q10:D n10=false:=by cases q:D n10 with|false=>rfl|true=>have:=h.dc.1 q; rw[q8] at this; cases this
 have ho:=h.o
 rw[q10,q8,hD7,hD] at ho
 simp only[Bool.false_eq_true,if_false,if_true] at ho
 exact ho
theorem ZbR.s7 {g:GotV} {b7:Nat} (h:ZbR w B0 B x A nu b4 Out E0 t1 t6 t7 t8 tS n1 n6 n7 n8 n9 n10 D e ds L) (hD6:D n6=true) (hD:D n7=false) (hv:Out g) (hi:∀ p∈g.K,w.heap.size≤p.1) (h7:w.heap.size≤b7) (hL:L=g.K++(x.own++(A++oVn nu b4 x.way::B g))) (hE:E0 (upd e t7 (.slice (some ⟨b7,0,none⟩) 1 1))) (ht:t1≠t7) (hn:n1≠n7∧n6≠n7∧n8≠n7∧n10≠n7) (h9:n9≠n7∧tS≠t7) :
 ZbR w B0 B x A nu b4 Out E0 t1 t6 t7 t8 tS n1 n6 n7 n8 n9 n10 (fun j=>D j || j == n7) (upd e t7 (.slice (some ⟨b7,0,none⟩) 1 1)) ds ((b7,Obj.cells (g.y.cells g.a2 g.c2).toArray 29 (0,0))::L):=by
 have q8:D n8=false:=by cases q:D n8 with|false=>rfl|true=>have:=(h.dc.2.1 q).1; rw[hD] at this; cases this
 have q10:D n10=false:=by cases q:D n10 with|false=>rfl|true=>have:=h.dc.1 q; rw[q8] at this; cases this
 refine ⟨h.hds,hE,fun q=>?_,?_,?_,?_⟩
 ·simp only[beq_eq_false_iff_ne.2 hn.1,Bool.or_false] at q
  simp only[upd,if_neg ht]
  exact h.d1 q
 ·simp only[beq_eq_false_iff_ne.2 hn.1,beq_eq_false_iff_ne.2 hn.2.1,beq_eq_false_iff_ne.2 hn.2.2.1,beq_eq_false_iff_ne.2 hn.2.2.2,Bool.or_false,beq_self_eq_true,Bool.or_true]
  exact ⟨h.dc.1,fun q=>(by rw[q8] at q; cases q),fun _=>hD6⟩
 ·simp only[beq_eq_false_iff_ne.2 hn.2.2.1,beq_eq_false_iff_ne.2 hn.2.2.2,Bool.or_false,beq_self_eq_true,Bool.or_true,q8,q10,Bool.false_eq_true,if_false,if_true]
  exact ⟨g,b7,hv,hi,h7,by simp[upd],by rw[hL]⟩
 ·intro q
  simp only[beq_eq_false_iff_ne.2 h9.1,Bool.or_false] at q
  simp only[upd,if_neg h9.2]
  exact h.d9 q
theorem ZbR.row (h:ZbR w B0 B x A nu b4 Out E0 t1 t6 t7 t8 tS n1 n6 n7 n8 n9 n10 D e ds L) (hD:D n7=true) (hD8:D n8=false):ZbS w B0 B x A nu b4 Out (e t6) (e t7) (e t8) L 2:=by
 have q10:D n10=false:=by cases q:D n10 with|false=>rfl|true=>have:=h.dc.1 q; rw[hD8] at this; cases this
 have ho:=h.o
 rw[q10,hD8,hD] at ho
 simp only[Bool.false_eq_true,if_false,if_true] at ho
 exact ho
theorem ZbR.s8 {x':Rw} {L'':Own} {e6 e7:Value} (h:ZbR w B0 B x A nu b4 Out E0 t1 t6 t7 t8 tS n1 n6 n7 n8 n9 n10 D e ds L) (hD1:D n1=true) (hD7:D n7=true) (hD:D n8=false) (ho:ZbS w B0 B x A nu b4 Out e6 e7 x'.way L'' 3) (hE:E0 (upd e t8 x'.way)) (ht:t1≠t8) (hn:n1≠n8∧n6≠n8∧n7≠n8∧n10≠n8) (h9:n9≠n8∧tS≠t8) :
 ZbR w B0 B x A nu b4 Out E0 t1 t6 t7 t8 tS n1 n6 n7 n8 n9 n10 (fun j=>D j || j == n8) (upd e t8 x'.way) ds L'':=by
 have q10:D n10=false:=by cases q:D n10 with|false=>rfl|true=>have:=h.dc.1 q; rw[hD] at this; cases this
 refine ⟨h.hds,hE,fun q=>?_,?_,?_,?_⟩
 ·simp only[upd,if_neg ht]
  exact h.d1 hD1
 ·simp only[beq_eq_false_iff_ne.2 hn.1,beq_eq_false_iff_ne.2 hn.2.1,beq_eq_false_iff_ne.2 hn.2.2.1,beq_eq_false_iff_ne.2 hn.2.2.2,Bool.or_false,beq_self_eq_true,Bool.or_true]
  exact ⟨fun _=>trivial,fun _=>⟨hD7,hD1⟩,h.dc.2.2⟩
 ·simp only[beq_eq_false_iff_ne.2 hn.2.2.2,Bool.or_false,beq_self_eq_true,Bool.or_true,q10,Bool.false_eq_true,if_false,if_true]
  obtain ⟨g,x2,r1,r2,r3,r4,r5,r6,r7,r8⟩:=ho
  exact ⟨g,x2,r1,r2,r3,r4,r5,r6,by simp only[upd,if_pos]; exact r7,r8⟩
 ·intro q
  simp only[beq_eq_false_iff_ne.2 h9.1,Bool.or_false] at q
  simp only[upd,if_neg h9.2]
  exact h.d9 q
theorem ZbR.app (h:ZbR w B0 B x A nu b4 Out E0 t1 t6 t7 t8 tS n1 n6 n7 n8 n9 n10 D e ds L) (hD8:D n8=true) (hD:D n10=false):∃ (g:GotV) (x':Rw),Out g∧(∀ p∈g.K,w.heap.size≤p.1)∧x'.OK∧x'.n=x.n+1∧x'.cs.take (x'.n * 4)=x.cs.take (x.n * 4)++g.y.cells g.a2 g.c2∧(∀ p∈x'.own,w.heap.size≤p.1)∧e t8=x'.way∧L=oVn nu b4 x.way::(x'.own++(A++(g.K++B g))):=by
 have ho:=h.o
 rw[hD,hD8] at ho
 simp only[Bool.false_eq_true,if_false,if_true] at ho
 exact ho
theorem ZbR.s10 {x':Rw} {g:GotV} (h:ZbR w B0 B x A nu b4 Out E0 t1 t6 t7 t8 tS n1 n6 n7 n8 n9 n10 D e ds L) (hD8:D n8=true) (hv:Out g) (hi:∀ p∈g.K,w.heap.size≤p.1) (r3:x'.OK) (r4:x'.n=x.n+1) (r5:x'.cs.take (x'.n * 4)=x.cs.take (x.n * 4)++g.y.cells g.a2 g.c2) (r6:∀ p∈x'.own,w.heap.size≤p.1) (hn:n1≠n10∧n6≠n10∧n7≠n10∧n8≠n10) (h9:n9≠n10) :
 ZbR w B0 B x A nu b4 Out E0 t1 t6 t7 t8 tS n1 n6 n7 n8 n9 n10 (fun j=>D j || j == n10) e ds (oVn nu b4 x'.way::(x'.own++(A++(g.K++B g)))):=by
 refine ⟨h.hds,h.he,fun q=>?_,?_,?_,?_⟩
 ·simp only[beq_eq_false_iff_ne.2 hn.1,Bool.or_false] at q
  exact h.d1 q
 ·simp only[beq_eq_false_iff_ne.2 hn.1,beq_eq_false_iff_ne.2 hn.2.1,beq_eq_false_iff_ne.2 hn.2.2.1,beq_eq_false_iff_ne.2 hn.2.2.2,Bool.or_false,beq_self_eq_true,Bool.or_true]
  exact ⟨fun _=>hD8,h.dc.2.1,h.dc.2.2⟩
 ·simp only[beq_self_eq_true,Bool.or_true,if_true]
  exact ⟨g,x',hv,hi,r3,r4,r5,r6,rfl⟩
 ·intro q
  simp only[beq_eq_false_iff_ne.2 h9,Bool.or_false] at q
  exact h.d9 q
theorem ZbR.done (h:ZbR w B0 B x A nu b4 Out E0 t1 t6 t7 t8 tS n1 n6 n7 n8 n9 n10 D e ds L) (hD:D n10=true):∃ (g:GotV) (x':Rw),Out g∧(∀ p∈g.K,w.heap.size≤p.1)∧x'.OK∧x'.n=x.n+1∧x'.cs.take (x'.n * 4)=x.cs.take (x.n * 4)++g.y.cells g.a2 g.c2∧(∀ p∈x'.own,w.heap.size≤p.1)∧L=oVn nu b4 x'.way::(x'.own++(A++(g.K++B g))):=by
 have ho:=h.o
 rw[hD] at ho
 simp only[if_true] at ho
 exact ho
theorem ZbR.s9 (h:ZbR w B0 B x A nu b4 Out E0 t1 t6 t7 t8 tS n1 n6 n7 n8 n9 n10 D e ds L) (hE:E0 (upd e tS (.pointer (some ⟨b4,3,none⟩)))) (ht:t1≠tS∧t6≠tS∧t7≠tS∧t8≠tS) (hn:n1≠n9∧n6≠n9∧n7≠n9∧n8≠n9∧n10≠n9) :
 ZbR w B0 B x A nu b4 Out E0 t1 t6 t7 t8 tS n1 n6 n7 n8 n9 n10 (fun j=>D j || j == n9) (upd e tS (.pointer (some ⟨b4,3,none⟩))) ds L:=by
 refine ⟨h.hds,hE,fun q=>?_,?_,?_,fun _=>by simp[upd]⟩
 ·simp only[beq_eq_false_iff_ne.2 hn.1,Bool.or_false] at q
  simp only[upd,if_neg ht.1]
  exact h.d1 q
 ·simp only[beq_eq_false_iff_ne.2 hn.1,beq_eq_false_iff_ne.2 hn.2.1,beq_eq_false_iff_ne.2 hn.2.2.1,beq_eq_false_iff_ne.2 hn.2.2.2.1,beq_eq_false_iff_ne.2 hn.2.2.2.2,Bool.or_false]
  exact h.dc
 ·have:=h.o
  simpa only[upd,if_neg ht.2.1,if_neg ht.2.2.1,if_neg ht.2.2.2,beq_eq_false_iff_ne.2 hn.2.1,beq_eq_false_iff_ne.2 hn.2.2.1,beq_eq_false_iff_ne.2 hn.2.2.2.1,beq_eq_false_iff_ne.2 hn.2.2.2.2,Bool.or_false] using this
end
end Go.Proofs.YtilejcofleeeiaaGreatDoor
