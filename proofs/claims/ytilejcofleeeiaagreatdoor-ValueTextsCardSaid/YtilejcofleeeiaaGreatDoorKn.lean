/- YtilejcofleeeiaaGreatDoor: the walk calculus, part Kn: proved rules by which the walks of this seat are made. -/
import Derived.Test.YtilejcofleeeiaaGreatDoorKg
import Derived.Laws.Append
import Derived.Laws.AppendOwn
import Derived.Lib.AppendStr
import Derived.Laws.IdiomStrings
namespace Go.K
open Go
open List renaming length_append → qA, mem_append → qP, getElem?_eq_getElem → qH
set_option linter.unusedVariables false
set_option linter.unusedSimpArgs false
variable {wb:World} {L:Own}
theorem Sy.end {w:World} (h:Sy wb L w) (hL:∀ p∈L,wb.heap.size≤p.1):Sy wb [] w:=h.drop (List.nil_sublist _) (fun p hp=>.inr (hL p hp))
theorem finIs {u v:Value} (hL:∀ p∈L,wb.heap.size≤p.1) (h:u=v):∀ w',Sy wb L w'→Rets wb (Is v) (.returned u) w':=fun _ hw=>⟨_,rfl,hw.end hL,h⟩
theorem finEx {u:Value} {S:Value→World→Prop} (hL:∀ p∈L,wb.heap.size≤p.1) (h:∀ w',Sy wb L w'→S u w'):∀ w',Sy wb L w'→Rets wb S (.returned u) w':=fun w' hw=>⟨_,rfl,hw.end hL,h w' hw⟩
theorem callVc {c:Cfg} {g:FuncId} {first cap args:Array Value} {o:Oper} {e:Env} {ds:List Deferred} {K:Value→World→Own→Prop} {Kp:KP} (he:entersB c.P g=true) (h:CallX c.P g (first++args++cap) wb L (tag K) (tag Kp)) :
 CallV c (.func (.func g) first cap) args (tag o) wb e ds L (tag K) (tag Kp):=⟨he,h⟩
theorem Rd.sy {w w':World} {lo:Nat} {a:Option Addr} {l:List Fld} {M:Own} (h:Rd w lo a l) (hlo:lo≤w.heap.size) (hs:Sy w M w') (hM:∀ p∈M,lo≤p.1):Rd w' lo a l :=
 h.mono fun k hk=>hs.rest k (Nat.lt_of_lt_of_le hk hlo) (fun hm=>by obtain ⟨p,hp,e⟩:=List.mem_map.1 hm; have:=hM p hp; omega)
def idxF (p:Fld→Bool) (l:List Fld):Int:=match l.findIdx? p with|some i=>i|none=>-1
theorem idxF_any (p:Fld→Bool) (l:List Fld):(0≤idxF p l)↔l.any p=true:=by
 unfold idxF
 cases h:l.findIdx? p with
 | none =>
  rw[List.findIdx?_eq_none_iff] at h
  simp only[List.any_eq_true]
  constructor
  ·intro h1; omega
  ·rintro ⟨x,hx,hp⟩; rw[h x hx] at hp; cases hp
 | some i =>
  have:=(List.findIdx?_eq_some_iff_getElem.1 h)
  obtain ⟨hi,hp,_⟩:=this
  constructor
  ·intro _; rw[List.any_eq_true]; exact ⟨_,List.getElem_mem hi,hp⟩
  ·intro _; simp
theorem idxF_at {p:Fld→Bool} {l:List Fld} {k:Nat} {f:Fld} (h:∀ j g,j < k→l[j]?=some g→p g=false) (hk:l[k]?=some f) (hp:p f=true):idxF p l=k:=by
 unfold idxF
 obtain ⟨h1,h2⟩:=List.getElem?_eq_some_iff.1 hk
 have:l.findIdx? p=some k:=by
  rw[List.findIdx?_eq_some_iff_getElem]
  refine ⟨h1,by rw[h2]; exact hp,fun j hj=>?_⟩
  have:=h j _ hj (qH (by omega))
  simp[this]
 rw[this]
theorem idxF_none {p:Fld→Bool} {l:List Fld} (h:∀ j g,j < l.length→l[j]?=some g→p g=false):idxF p l=-1:=by
 unfold idxF
 have:l.findIdx? p=none:=by
  rw[List.findIdx?_eq_none_iff]
  intro x hx
  obtain ⟨j,hj⟩:=List.mem_iff_getElem?.1 hx
  exact h j x (List.getElem?_eq_some_iff.1 hj).1 hj
 rw[this]
theorem ldAggF {P:Program} {t:TypeId} {b off n:Nat} {vs:List Value} {K:Value→Prop} (ht:shapeOf P t=some (true,n)) (ha:At wb b off vs) (hn:vs.length=n) (hb:b∉L.map (·.1)) (h:K (.agg vs.toArray)) :
 LoadX P t (.pointer (some ⟨b,off,none⟩)) wb L (tag K):=loadX_aggF (by rw[ht,hn]) ha hb h
/-! ### Maps whose keys are whole numbers -/
structure KeysOf (es:Array MapEntry) (S:List Int):Prop where
 int:∀ e∈es.toList,∃ y,e.key=i64 y
 mem:∀ x,(∃ e∈es.toList,e.key=i64 x)↔x∈S
theorem KeysOf.nil:KeysOf #[] []:=⟨fun e h=>by simp at h,fun x=>by simp⟩
theorem findNow_int (x:Int):∀ (es:List MapEntry) (i:Nat),(∀ e∈es,∃ y,e.key=i64 y) →
 ∃ r,Instr.findNow (.int .i64) (i64 x) es i=some r∧(r.isSome=true↔∃ e∈es,e.key=i64 x)∧∀ j v,r=some (j,v)→i≤j∧∃ e,es[j - i]?=some e∧e.key=i64 x
 | [],i,_=>⟨none,rfl,by simp,fun j v h=>by cases h⟩
 | e::es,i,h=>by
  obtain ⟨y,hy⟩:=h e (by simp)
  by_cases hxy:x=y
  ·subst hxy
   refine ⟨some (i,e.val),by simp[Instr.findNow,hy,Instr.sameNow],by simp[hy],fun j v hj=>?_⟩
   cases hj
   exact ⟨Nat.le_refl _,e,by simp,hy⟩
  ·obtain ⟨r,h1,h2,h3⟩:=findNow_int x es (i+1) (fun e he=>h e (by simp[he]))
   have hbe:(x == y)=false:=by simp[hxy]
   refine ⟨r,by simp only[Instr.findNow,hy,Instr.sameNow,if_true,hbe,h1],?_,fun j v hj=>?_⟩
   ·rw[h2]
    constructor
    ·rintro ⟨e',h4,h5⟩; exact ⟨e',by simp[h4],h5⟩
    ·rintro ⟨e',h4,h5⟩
     rcases List.mem_cons.1 h4 with h6|h6
     ·subst h6; rw[hy] at h5; cases h5; exact absurd rfl hxy
     ·exact ⟨e',h6,h5⟩
   ·obtain ⟨h4,e',h5,h6⟩:=h3 j v hj
    refine ⟨by omega,e',?_,h6⟩
    rw[show j - i=(j - (i+1))+1 by omega]
    simpa using h5
variable {P:Program} {wb:World} {L:Own} {t kt et:TypeId}
theorem checkKey_int {b:Bool} {x:Int} (hk:P.underlying kt=some (.int .i64)) (w:World):(Instr.checkKey b 10000 kt (i64 x)).run P w=.ok () w:=by
 unfold Instr.checkKey
 simp[underlying,hk]
theorem findKey_int {es:Array MapEntry} {S:List Int} {x:Int} (hk:P.underlying kt=some (.int .i64)) (h:KeysOf es S) (w:World) :
 ∃ r,(Instr.findKey kt (i64 x) es.toList).run P w=.ok r w∧(r.isSome=true↔x∈S)∧∀ j v,r=some (j,v)→∃ e,es[j]?=some e∧e.key=i64 x:=by
 obtain ⟨r,h1,h2,h3⟩:=findNow_int x es.toList 0 h.int
 refine ⟨r,by simp[Instr.findKey,underlying,hk,h1],h2.trans (h.mem x),fun j v hj=>?_⟩
 obtain ⟨_,e,h4,h5⟩:=h3 j v hj
 exact ⟨e,by simpa using h4,h5⟩
theorem lookupX {K:Value→World→Own→Prop} {m clock:Nat} {es:Array MapEntry} {S:List Int} {x:Int} {z:Value} (ht:P.underlying t=some (.map kt et)) (hk:P.underlying kt=some (.int .i64)) (hz:∀ w,(zeroValue et).run P w=.ok z w)
 (hm:∀ w,Sy wb L w→w.heap[m]?=some (.map es clock)) (h:KeysOf es S) (hK:∀ v,K (.tuple #[v,.bool (decide (x∈S))]) wb L):ValX P (Instr.lookup t (.map (some m)) (i64 x) true) wb L (tag K):=by
 intro w hw
 obtain ⟨r,h1,h2,h3⟩:=findKey_int (x:=x) hk h w
 have hg:(getObj m).run P w=.ok (.map es clock) w:=by simp[getObj,Sem.run,hm w hw]
 cases r with
 | none =>
  refine ⟨.tuple #[z,.bool (decide (x∈S))],w,wb,L,?_,hw,hK z⟩
  have hx:x∉S:=fun hx=>by have:=h2.2 hx; simp at this
  simp[Instr.lookup,underlying,ht,hg,checkKey_int hk,h1,hz,hx]
 | some jv =>
  obtain ⟨j,v⟩:=jv
  refine ⟨.tuple #[v,.bool (decide (x∈S))],w,wb,L,?_,hw,hK v⟩
  have hx:x∈S:=h2.1 rfl
  simp[Instr.lookup,underlying,ht,hg,checkKey_int hk,h1,hx]
theorem mapUpdateX {K:World→Own→Prop} {m clock:Nat} {es:Array MapEntry} {S:List Int} {x:Int} {v:Value} (i:Nat) (hi:L[i]?=some (m,.map es clock)) (ht:P.underlying t=some (.map kt et)) (hk:P.underlying kt=some (.int .i64)) (h:KeysOf es S)
 (hK:∀ es' clock',KeysOf es' (x::S)→K wb (L.set i (m,.map es' clock'))):UnitX P (Instr.mapUpdate t (.map (some m)) (i64 x) v) wb L (tag K):=by
 intro w hw
 have hb:=hw.own m _ (List.mem_iff_getElem?.2 ⟨i,hi⟩)
 obtain ⟨r,h1,h2,h3⟩:=findKey_int (x:=x) hk h w
 have hg:(getObj m).run P w=.ok (.map es clock) w:=by simp[getObj,Sem.run,hb]
 have hs:∀ o,(setObj m o).run P w=.ok () { w with heap:=w.heap.setIfInBounds m o }:=fun o=>by simp[setObj,Sem.run,hb]
 cases r with
 | none =>
  refine ⟨_,wb,_,?_,hw.set (.map (es.push { key:=i64 x,val:=v,born:=clock }) (clock+1)) hi,hK _ _ ⟨fun e he=>?_,fun y=>?_⟩⟩
  ·simp[Instr.mapUpdate,underlying,ht,hg,checkKey_int hk,h1,hs]
  ·simp only[Array.toList_push,qP,List.mem_singleton] at he
   rcases he with he|he
   ·exact h.int e he
   ·subst he; exact ⟨x,rfl⟩
  ·rw[List.mem_cons,← h.mem y]
   constructor
   ·rintro ⟨e,he,hy⟩
    rw[Array.toList_push,qP,List.mem_singleton] at he
    rcases he with he|he
    ·exact .inr ⟨e,he,hy⟩
    ·subst he; cases hy; exact .inl rfl
   ·rintro (rfl|⟨e,he,hy⟩)
    ·exact ⟨_,by rw[Array.toList_push]; exact List.mem_append.2 (.inr (List.mem_singleton.2 rfl)),rfl⟩
    ·exact ⟨e,by rw[Array.toList_push]; exact List.mem_append.2 (.inl he),hy⟩
 | some jv =>
  obtain ⟨j,u⟩:=jv
  obtain ⟨e0,h4,h5⟩:=h3 j u rfl
  have hx:x∈S:=h2.1 rfl
  refine ⟨_,wb,_,?_,hw.set (.map (es.modify j fun e=>{ e with key:=i64 x,val:=v }) clock) hi,hK _ _ ⟨fun e he=>?_,fun y=>?_⟩⟩
  ·simp[Instr.mapUpdate,underlying,ht,hg,checkKey_int hk,h1,h4,h5,Instr.keyThatStays,Instr.sameBits,hs]
  ·obtain ⟨l,hl⟩:=List.mem_iff_getElem?.1 he
   rw[Array.getElem?_toList,Array.getElem?_modify] at hl
   split at hl
   ·cases hh:es[l]? with
    | none=>rw[hh] at hl; simp at hl
    | some e'=>rw[hh] at hl; simp only[Option.map_some,Option.some.injEq] at hl; subst hl; exact ⟨x,rfl⟩
   ·exact h.int e (List.mem_iff_getElem?.2 ⟨l,by rw[Array.getElem?_toList]; exact hl⟩)
  ·have hxx:y∈x::S↔y∈S:=by
    constructor
    ·intro hy; rcases List.mem_cons.1 hy with rfl|hy
     ·exact hx
     ·exact hy
    ·exact fun hy=>by simp[hy]
   rw[hxx,← h.mem y]
   constructor
   ·rintro ⟨e,he,hy⟩
    obtain ⟨l,hl⟩:=List.mem_iff_getElem?.1 he
    rw[Array.getElem?_toList,Array.getElem?_modify] at hl
    split at hl
    ·rename_i hjl
     subst hjl
     rw[h4] at hl
     simp only[Option.map_some,Option.some.injEq] at hl
     subst hl
     exact ⟨e0,List.mem_iff_getElem?.2 ⟨j,by rw[Array.getElem?_toList]; exact h4⟩,by rw[h5]; exact hy⟩
    ·exact ⟨e,List.mem_iff_getElem?.2 ⟨l,by rw[Array.getElem?_toList]; exact hl⟩,hy⟩
   ·rintro ⟨e,he,hy⟩
    obtain ⟨l,hl⟩:=List.mem_iff_getElem?.1 he
    rw[Array.getElem?_toList] at hl
    by_cases hjl:j=l
    ·subst hjl
     rw[h4] at hl; cases hl
     rw[h5] at hy; cases hy
     exact ⟨{ e0 with key:=i64 x,val:=v },List.mem_iff_getElem?.2 ⟨j,by rw[Array.getElem?_toList,Array.getElem?_modify,if_pos rfl,h4]; rfl⟩,rfl⟩
    ·exact ⟨e,List.mem_iff_getElem?.2 ⟨l,by rw[Array.getElem?_toList,Array.getElem?_modify,if_neg hjl]; exact hl⟩,hy⟩
theorem forget {c:Cfg} {code:Code} {Q:Post} {e:Env} {ds:List Deferred} (F:Env→Prop) (hF:F e) (h:∀ e,F e→VT c (tag code) (tag Q) wb e ds L):VT c (tag code) (tag Q) wb e ds L:=h e hF
variable {wb:World} {L:Own} {P:Program}
theorem Sy.perm {M:Own} {w:World} (h:Sy wb L w) (hp:L.Perm M):Sy wb M w :=
 ⟨h.os,h.tape,h.output,h.size,fun b o hm=>h.own b o (hp.mem_iff.2 hm),(hp.map _).nodup_iff.1 h.nodup,fun k hk hn=>h.rest k hk (fun hm=>hn ((hp.map (·.1)).mem_iff.1 hm))⟩
theorem Sy.lose {w:World} {i b:Nat} {o:Obj} (h:Sy wb L w) (hi:L[i]?=some (b,o)) (hb:wb.heap.size≤b):Sy wb (L.eraseIdx i) w:=by
 refine h.drop (List.eraseIdx_sublist _ _) fun p hp=>?_
 obtain ⟨j,hj⟩:=List.mem_iff_getElem?.1 hp
 by_cases hij:j=i
 ·subst hij; rw[hi] at hj; cases hj; exact .inr hb
 ·refine .inl (List.mem_iff_getElem?.2 ?_)
  rcases Nat.lt_or_gt_of_ne hij with hlt|hgt
  ·exact ⟨j,by rw[List.getElem?_eraseIdx_of_lt hlt]; exact hj⟩
  ·exact ⟨j - 1,by rw[List.getElem?_eraseIdx_of_ge (by omega),show j - 1+1=j by omega]; exact hj⟩
theorem zeroCells_length (z:Array Value) (n:Nat):(Builtin.zeroCells z n).size=n * z.size:=by simp[Builtin.zeroCells]
def CanRead (wb:World) (L:Own) (a:Addr) (news:List Value):Prop:=∀ w,Sy wb L w→∀ j v,news[j]?=some v→w.cell? (a.add j)=some v
def RowO (wb:World) (e:TypeId) (size:Nat) (L M:Own) (v:Value) (n:Nat) (xs:List Value):Prop :=
 xs.length=n * size∧((v=.slice none 0 0∧n=0∧L=M) ∨
  ∃ (b cap:Nat) (cs:List Value),v=.slice (some ⟨b,0,none⟩) n cap∧L=(b,.cells cs.toArray e (0,0))::M∧wb.heap.size≤b∧n≤cap∧cap≤maxLen∧cs.length=cap * size∧cs.take (n * size)=xs)
theorem Sy.drewn {w:World} (h:Sy wb L w):Sy wb L w.drew:=⟨h.os,h.tape,h.output,h.size,h.own,h.nodup,h.rest⟩
theorem appendX {t ty e:TypeId} {inf:TypeInfo} {z:Value} {size bytes n m c:Nat} {M:Own} {v:Value} {xs news:List Value} {a:Addr} {K:Value→World→Own→Prop}
 (ht:P.underlying t=some (.slice e)) (hi:P.info? e=some inf) (hz:inf.zero=some z) (hsize:inf.size=size) (hby:inf.bytes=bytes) (hzs:z.cells.size=size)
 (hrow:RowO wb e size L M v n xs) (hl:news.length=m * size) (hr:CanRead wb L a news) (h1:∀ u∈news,u.oneCell'=true) (h63:n+m≤maxLen) (hbytes:(n+m) * bytes≤140737488355328)
 (hK:∀ v' L',RowO wb e size L' M v' (n+m) (xs++news)→(v'=.slice none 0 0↔v=.slice none 0 0∧m=0)→K v' wb L'):ValX P (Builtin.append_ #[t,t] ty #[v,.slice (some a) m c]) wb L (tag K):=by
 subst hsize; subst hby
 intro w hw
 have hnews:=hr w hw
 have h63':((n+m:Nat):Int)≤9223372036854775807:=by simp only[maxLen] at h63; omega
 obtain ⟨hxl,hrow⟩:=hrow
 rcases hrow with ⟨rfl,rfl,rfl⟩|⟨b,cap,cs,rfl,rfl,hb,hnc,hcm,hcl,hct⟩
 ·have hx:xs=[]:=by simpa using hxl
  subst hx
  rcases Nat.eq_zero_or_pos m with rfl|hm
  ·have hn0:news=[]:=by simpa using hl
   subst hn0
   have hf:=run_firstCells_some (P:=P) w inf.size 0 a 0 c [] (by simp) (by simp)
   refine ⟨.slice none 0 0,w,wb,L,?_,hw,hK _ _ ⟨by simp,.inl ⟨rfl,rfl,rfl⟩⟩ (by simp)⟩
   simp[Builtin.append_,run_underlying ht,sizeOf,typeInfo,hi,Builtin.lenOf,hf]
  ·have hrun:=run_append_nil (P:=P) w t ty e inf z ht hi hz a m c news hl hnews hm (by omega) (by
    rw[Nat.zero_add] at hbytes; omega)
   have hge:=grownCap_ge w m 0 e
   have hle:=grownCap_le_maxLen w m 0 e (by omega)
   refine ⟨_,_,wb,_,hrun,hw.drewn.new _,hK _ _ ⟨by simp[hl],.inr ⟨w.heap.size,grownCap w m 0 e,news++(Builtin.zeroCells z.cells (grownCap w m 0 e - m)).toList,by simp,?_,hw.size,by omega,hle,?_,?_⟩⟩ ?_⟩
   ·show (w.heap.size,_)::L=_
    simp
   ·rw[qA,hl,Array.length_toList,zeroCells_length,hzs,← Nat.add_mul,Nat.add_sub_cancel' hge]
   ·rw[Nat.zero_add,← hl]; simp
   ·simp; omega
 ·have hbo:=hw.own b _ (List.mem_cons_self ..)
  have hcells:∀ j u,xs[j]?=some u→w.cell? ((⟨b,0,none⟩:Addr).add j)=some u:=by
   intro j u hu
   have hadd:(⟨b,0,none⟩:Addr).add j=⟨b,j,none⟩:=by unfold Addr.add; split<;>simp_all
   rw[hadd]
   simp only[World.cell?,hbo]
   rw[← hct,List.getElem?_take] at hu
   split at hu
   ·simpa using hu
   ·cases hu
  rcases Nat.lt_or_ge cap (n+m) with hg|hroom
  ·have hrun:=run_append_grow (P:=P) w t ty e inf z ht hi hz ⟨b,0,none⟩ n cap xs hxl hcells a m c news hl hnews hg h63' (growslice_fits hg hbytes)
   have hge:=grownCap_ge w (n+m) cap e
   have hle:=grownCap_le_maxLen w (n+m) cap e h63
   refine ⟨_,_,wb,(w.heap.size,.cells (xs.toArray++news.toArray++Builtin.zeroCells z.cells (grownCap w (n+m) cap e - (n+m))) e)::M,hrun,?_,hK _ _ ⟨by simp[hxl,hl,Nat.add_mul],.inr ⟨w.heap.size,grownCap w (n+m) cap e,xs++news++(Builtin.zeroCells z.cells (grownCap w (n+m) cap e - (n+m))).toList,rfl,?_,hw.size,hge,hle,?_,?_⟩⟩ ?_⟩
   ·have h2:=(hw.drewn.new (.cells (xs.toArray++news.toArray++Builtin.zeroCells z.cells (grownCap w (n+m) cap e - (n+m))) e)).lose (i:=1) (b:=b) (o:=.cells cs.toArray e (0,0)) (by simp) hb
    exact h2
   ·simp
   ·rw[qA,qA,hxl,hl,Array.length_toList,zeroCells_length,hzs,← Nat.add_mul,← Nat.add_mul,Nat.add_sub_cancel' hge]
   ·rw[Nat.add_mul,← hxl,← hl,← qA,List.take_left]
   ·simp
  ·have hfit:n * inf.size+news.length≤cs.length:=by rw[hl,hcl,← Nat.add_mul]; exact Nat.mul_le_mul_right _ hroom
   have hrun:=run_append_room (P:=P) w t ty e inf ht hi b n cap cs.toArray hbo a m c news hl hnews h1 hroom (by simpa using hfit)
   refine ⟨_,_,wb,(b,.cells (xs++news++cs.drop (n * inf.size+news.length)).toArray e (0,0))::M,hrun,?_,hK _ _ ⟨by simp[hxl,hl,Nat.add_mul],.inr ⟨b,cap,xs++news++cs.drop (n * inf.size+news.length),rfl,rfl,hb,hroom,hcm,?_,?_⟩⟩ (by simp)⟩
   ·have h2:=hw.set (i:=0) (b:=b) (o:=.cells cs.toArray e (0,0)) (.cells (xs++news++cs.drop (n * inf.size+news.length)).toArray e (0,0)) (by simp)
    simp only[List.set_cons_zero] at h2
    have h3:w.setRow b (cs.toArray.toList.take (n * inf.size)++news++cs.toArray.toList.drop (n * inf.size+news.length)).toArray={ w with heap:=w.heap.setIfInBounds b (.cells (xs++news++cs.drop (n * inf.size+news.length)).toArray e (0,0)) }:=by
     unfold World.setRow
     congr 1
     apply Array.ext_getElem?
     intro j
     rw[Array.getElem?_modify,Array.getElem?_setIfInBounds]
     have hlt:=(Array.getElem?_eq_some_iff.1 hbo).1
     split
     ·rename_i hj; subst hj; rw[hbo]; simp[hct,hlt]
     ·rfl
    rw[h3]; exact h2
   ·rw[qA,qA,List.length_drop,hxl]; omega
   ·rw[Nat.add_mul,← hxl,← hl,← qA,List.take_left]
variable {wb:World} {L:Own} {P:Program}
theorem Sy.add {w w':World} {M:Own} (h:Sy wb L w) (h':Sy w M w') (hM:∀ p∈M,w.heap.size≤p.1):Sy wb (M++L) w':=by
 refine ⟨h'.os.trans h.os,h'.tape.trans h.tape,h'.output.trans h.output,Nat.le_trans h.size h'.size,fun b o hm=>?_,?_,fun k hk hn=>?_⟩
 ·rcases List.mem_append.1 hm with hm|hm
  ·exact h'.own b o hm
  ·rw[h'.rest b (h.lt hm) (fun hm'=>by obtain ⟨p,hp,e⟩:=List.mem_map.1 hm'; have:=hM p hp; have:=h.lt hm; omega)]
   exact h.own b o hm
 ·rw[List.map_append,List.nodup_append]
  refine ⟨h'.nodup,h.nodup,fun a ha b hb e=>?_⟩
  subst e
  obtain ⟨p,hp,e1⟩:=List.mem_map.1 ha
  obtain ⟨q,hq,e2⟩:=List.mem_map.1 hb
  have h1:=hM p hp
  have h2:=h.lt hq
  omega
 ·simp only[List.map_append,qP,not_or] at hn
  rw[h'.rest k (by have:=h.size; omega) hn.1]
  exact h.rest k hk hn.2
def RetsN (w:World) (S:Value→Own→Prop) (e:Ending) (w':World):Prop:=∃ v M,e=.returned v∧Sy w M w'∧(∀ p∈M,w.heap.size≤p.1)∧S v M
theorem cNw {f:FuncId} {args:Array Value} {S:Value→Own→Prop} {K:Value→World→Own→Prop} {Kp:KP} (h:∀ w,Sy wb L w→Calls P f args w (RetsN w S))
 (hk:∀ v M,(∀ p∈M,wb.heap.size≤p.1)→(∀ p∈M,p.1∉L.map (·.1))→S v M→K v wb (M++L)):CallX P f args wb L (tag K) (tag Kp):=fun w hw =>
 (h w hw).mono fun e w' ⟨v,M,he,hs,hM,hS⟩=>by
  subst he
  refine ⟨wb,M++L,hw.add hs hM,hk v M (fun p hp=>Nat.le_trans hw.size (hM p hp)) (fun p hp hm=>?_) hS⟩
  obtain ⟨q,hq,e⟩:=List.mem_map.1 hm
  have h1:=hM p hp
  have h2:=hw.lt hq
  omega
theorem enterB {f:FuncId} {fn:Func} {code:Code} {args:List Value} {w:World} {R:Ending→World→Prop} (hf:P.funcs[f]?=some fn) (hb:fn.body=some code) {rs:List ResultVar} {n:Nat} (hn:fn.ntmps=n) (hrs:fn.results.toList=rs) (hok:okCode n code=true) (hsz:args.length≤n)
 (hL:Sy wb L w) (h:VT ⟨P,n,none⟩ (tag code) (tag (retP P rs (tag R))) wb (env0 args) [] L):Calls P f args.toArray w R:=by
 subst hn
 refine calls_of_wp hf hb ((wpIn_wide (n:=0)).1 (wpIn_mono (V_sound (c:=⟨P,fn.ntmps,none⟩) code _ wb _ [] L hok h { tmps:=args.toArray++Array.replicate (fn.ntmps - args.toArray.size) undef,defers:=[] } w (rep0 hsz) hL) ?_))
 rintro x a w' ⟨wb',e',ds',L',hr',hw',hq⟩
 cases x with
 | normal =>
  obtain ⟨hd,hq⟩:=hq
  obtain ⟨vs,hk,hrun⟩:=results_run hr' hw' (by rw[hrs]; exact hq)
  exact ⟨hr'.defers.trans hd,_,hrun,hk w' hw'⟩
 | ret =>
  obtain ⟨hd,hq⟩:=hq
  obtain ⟨vs,hk,hrun⟩:=results_run hr' hw' (by rw[hrs]; exact hq)
  exact ⟨hr'.defers.trans hd,_,hrun,hk w' hw'⟩
 | panic ch=>exact ⟨hr'.defers.trans hq.1,hq.2 w' hw'⟩
 | exit id=>exact hq.elim
 | goto l=>exact hq.elim
 | outgrown=>exact hq.elim
theorem callX_base {f:FuncId} {args:Array Value} {R:Ending→World→Prop} {K:Value→World→Own→Prop} {Kp:KP} (h:∀ w,Sy wb L w→Calls P f args w R)
 (hk:∀ e w',R e w'→∃ v L',e=.returned v∧Sy wb L' w'∧K v wb L'):CallX P f args wb L (tag K) (tag Kp):=fun w hw =>
 (h w hw).mono fun e w' hR=>by
  obtain ⟨v,L',rfl,h1,h2⟩:=hk e w' hR
  exact ⟨wb,L',h1,h2⟩
/-! ### The fields of a tree in their order -/
structure FNode where
 path:List Nat
 ah:List Fld
 f:Fld
 ind:Bool
def nd:Nat→List Nat→Bool→List Fld→List FNode
 | 0,_,_,_=>[]
 | d+1,path,ind,l=>l.zipIdx.flatMap fun p=>⟨path++[p.2],l.take p.2,p.1,ind⟩::nd d (path++[p.2]) (ind || p.1.k == 19) p.1.sub
def ndAt (d:Nat) (path:List Nat) (ind:Bool) (l:List Fld) (i:Nat):List FNode:=(l.zipIdx.take i).flatMap fun p=>⟨path++[p.2],l.take p.2,p.1,ind⟩::nd d (path++[p.2]) (ind || p.1.k == 19) p.1.sub
theorem ndAt_zero (d:Nat) (path:List Nat) (ind:Bool) (l:List Fld):ndAt d path ind l 0=[]:=by simp[ndAt]
theorem ndAt_all (d:Nat) (path:List Nat) (ind:Bool) (l:List Fld) (i:Nat) (hi:l.length≤i):ndAt d path ind l i=nd (d+1) path ind l:=by
 simp only[ndAt,nd]
 rw[List.take_of_length_le (by simpa using hi)]
theorem ndAt_succ (d:Nat) (path:List Nat) (ind:Bool) (l:List Fld) (i:Nat) (f:Fld) (hf:l[i]?=some f) :
 ndAt d path ind l (i+1)=ndAt d path ind l i++(⟨path++[i],l.take i,f,ind⟩::nd d (path++[i]) (ind || f.k == 19) f.sub):=by
 have hz:l.zipIdx[i]?=some (f,i):=by simp[hf]
 simp only[ndAt,List.take_add_one,hz,List.flatMap_append,Option.toList_some,List.flatMap_cons,List.flatMap_nil,List.append_nil]
theorem nd_prefix (d:Nat) (path:List Nat) (ind:Bool) (l:List Fld) (i:Nat):ndAt d path ind l i <+: nd (d+1) path ind l:=by
 simp only[ndAt,nd]
 obtain ⟨t,ht⟩:=List.take_prefix i l.zipIdx
 exact ⟨t.flatMap _,by rw[← List.flatMap_append,ht]⟩
variable {wb:World} {L:Own} {P:Program}
@[push_cast] theorem VLT_drop_succ {c:Cfg} {all:List Oper} {Q:Post} (n:Nat) (o:Oper) (l:List Oper) (e:Env) (ds:List Deferred):VLT c (tag all) (tag Q) (tag (List.drop (n+1) (o::l))) wb e ds L=VLT c (tag all) (tag Q) (tag (List.drop n l)) wb e ds L:=(rfl)
@[push_cast] theorem VLT_drop_zero {c:Cfg} {all:List Oper} {Q:Post} (l:List Oper) (e:Env) (ds:List Deferred):VLT c (tag all) (tag Q) (tag (List.drop 0 l)) wb e ds L=VLT c (tag all) (tag Q) (tag l) wb e ds L:=(rfl)
theorem valX_weak {s:Sem Value} {L':Own} {K:Value→World→Own→Prop} (hs:∀ w,Sy wb L w→Sy wb L' w) (h:ValX P s wb L' (tag K)):ValX P s wb L (tag K):=fun w hw=>h w (hs w hw)
theorem callX_weak {f:FuncId} {args:Array Value} {L':Own} {K:Value→World→Own→Prop} {Kp:KP} (hs:∀ w,Sy wb L w→Sy wb L' w) (h:CallX P f args wb L' (tag K) (tag Kp)):CallX P f args wb L (tag K) (tag Kp):=fun w hw=>h w (hs w hw)
theorem bin_slice_nil {K:Value→Prop} {t e n c:Nat} {x y:Operand} (a:Option Addr) (ht:P.underlying t=some (.slice e)):PureX P (binV .eql t x y (.slice a n c) (.slice none 0 0)) (tag K)=K (.bool a.isNone):=px (fun w=>by
 have h:(Op.equal t (.slice a n c) (.slice none 0 0)).run P w=.ok a.isNone w:=by
  show (Op.equalIn (9999+1) t (.slice a n c) (.slice none 0 0)).run P w=_
  unfold Op.equalIn
  simp only[underlying,Sem.run_bind,run_program,Result.andThen_ok,ht,Sem.run_pure]
  cases a<;>simp
 show ((do eqGuard .eql t x y (.slice a n c) (.slice none 0 0); (do pure (.bool (← Op.equal t (.slice a n c) (.slice none 0 0)))):Sem Value)).run P w=_
 have hg:eqGuard .eql t x y (.slice a n c) (.slice none 0 0)=pure ():=rfl
 rw[hg]
 simp only[Sem.run_bind,Sem.run_pure,Result.andThen_ok,h]) K
theorem makeEmpty {t e size:Nat} {K:Value→World→Own→Prop} (ht:P.underlying t=some (.slice e)) (hi:(P.info? e).map (·.size)=some size)
 (h:NewX wb L (.cells #[] e (0,0)) (tag fun b L=>K (.slice (some ⟨b,0,none⟩) 0 0) wb L)):ValX P (Instr.buildSlice t 0 #[]) wb L (tag K):=by
 refine valX_new (f:=fun b=>.slice (some ⟨b,0,none⟩) 0 0) (o:=.cells #[] e (0,0)) (fun w=>?_) h
 cases hh:P.info? e with
 | none=>rw[hh] at hi; cases hi
 | some inf =>
  have hr:Array.range 0=(#[]:Array Nat):=by simp
  simp[Instr.buildSlice,underlying,ht,sizeOf,typeInfo,hh,Instr.fill,newRow,hr]
theorem makeOne {t e size:Nat} {v z:Value} {K:Value→World→Own→Prop} (ht:P.underlying t=some (.slice e)) (hi:(P.info? e).map (·.size)=some size) (h0:0 < size) (h24:size≤16777216) (hz:∀ w,(zeroValue e).run P w=.ok z w) (hv:v.cells.size=size)
 (h:NewX wb L (.cells v.cells e (0,0)) (tag fun b L=>K (.slice (some ⟨b,0,none⟩) 1 1) wb L)):ValX P (Instr.buildSlice t 1 #[(0,v)]) wb L (tag K):=by
 refine valX_new (f:=fun b=>.slice (some ⟨b,0,none⟩) 1 1) (o:=.cells v.cells e (0,0)) (fun w=>?_) h
 cases hh:P.info? e with
 | none=>rw[hh] at hi; cases hi
 | some inf =>
  have hs:inf.size=size:=by rw[hh] at hi; simpa using hi
  have hfill:Instr.fill (fun i=>some (i * size,size)) ((Array.range (1 * size)).map (z.cells[· % z.cells.size]!)) [(0,v)]=some v.cells:=by
   simp only[Instr.fill,hv,ne_eq,not_true_eq_false,false_or,Nat.zero_mul,Nat.zero_add,Array.size_map,Array.size_range,Nat.one_mul,gt_iff_lt,Nat.lt_irrefl,if_false]
   simp only[decide_false,Bool.false_or,Bool.false_eq_true,if_false,Nat.lt_irrefl,decide_eq_true_eq]
   congr 1
   have key:∀ (cs:List Value) (k:Nat) (a:Array Value),a.size=k+cs.length→((cs.zipIdx k).foldl (fun cs (c,j)=>cs.setIfInBounds j c) a).toList=a.toList.take k++cs:=by
    intro cs
    induction cs with
    | nil=>intro k a ha; simp at ha; simp only[List.zipIdx_nil,List.foldl_nil,List.append_nil]; rw[List.take_of_length_le (by simp; omega)]
    | cons c cs ih =>
     intro k a ha
     simp only[List.zipIdx_cons,List.foldl_cons]
     rw[ih (k+1) _ (by simp at ha ⊢; omega)]
     simp only[List.length_cons] at ha
     rw[Array.toList_setIfInBounds,List.take_set,List.take_add_one]
     have:a.toList[k]?=some (a.toList[k]'(by simp; omega)):=qH _
     rw[this]
     simp only[Option.toList_some]
     rw[List.set_append]
     have hk:(List.take k a.toList).length=k:=by simp; omega
     rw[if_neg (by omega),hk]
     simp
   apply Array.toList_inj.1
   rw[← Array.foldl_toList]
   simp only[Array.toList_zipIdx]
   rw[key v.cells.toList 0 _ (by simp[hv])]
   simp
  simp only[Instr.buildSlice,underlying,Sem.run_bind,run_program,Result.andThen_ok,ht,sizeOf,typeInfo,hh,Sem.run_pure,hs]
  rw[if_neg (by omega),if_neg (by omega)]
  rw[Nat.one_mul] at hfill
  simp[hz w,hfill,newRow]
theorem loopW {c:Cfg} {wb:World} {e:Env} {ds:List Deferred} {L:Own} {G:Type} {body:Code} {Q:Post} (I:G→World→Env→List Deferred→Own→Prop) (μ:G→Nat) (g:G) (L0:Own) (hL0:∀ w,Sy wb L w→Sy wb L0 w) (hok:okCode c.n body=true) (h0:I g wb e ds L0)
 (hr:∀ g wb e ds L,I g wb e ds L→VT c (tag body) (tag (thenP (tag fun wb' e' ds' L'=>∃ g' L'',(∀ w,Sy wb' L' w→Sy wb' L'' w)∧I g' wb' e' ds' L''∧μ g' < μ g) (tag Q))) wb e ds L):SemT c (tag (.loop body)) (tag Q) wb e ds L:=by
 intro a w hra hwa
 refine wpIn_loop_ghost (fun g a w=>∃ wb e ds L,Rep c.n a e ds∧Sy wb L w∧I g wb e ds L) μ g ⟨wb,e,ds,L0,hra,hL0 w hwa,h0⟩ ?_
 rintro g a w ⟨wb,e,ds,L,hra,hwa,hi⟩
 refine wpIn_mono (V_sound body _ wb e ds L hok (hr g wb e ds L hi) a w hra hwa) ?_
 rintro x a' w' ⟨wb',e',ds',L',hr',hw',hq⟩
 cases x with
 | normal=>obtain ⟨g',L'',hsub,hi',hlt⟩:=hq; exact ⟨g',⟨wb',e',ds',L'',hr',hsub _ hw',hi'⟩,hlt⟩
 | _=>exact ⟨wb',e',ds',L',hr',hw',hq⟩
def RowIn (L:Own) (e:TypeId) (v:Value) (n:Nat) (xs:List Value):Prop :=
 xs.length=n∧((v=.slice none 0 0∧n=0)∨∃ (b cap:Nat) (cs:List Value),v=.slice (some ⟨b,0,none⟩) n cap∧(b,.cells cs.toArray e (0,0))∈L∧n≤cap∧cap≤maxLen∧cs.length=cap∧cs.take n=xs)
theorem appendI {t ty e:TypeId} {z:Value} {size bytes n m c:Nat} {M:Own} {v:Value} {xs news:List Value} {a:Addr} {K:Value→World→Own→Prop}
 (ht:P.underlying t=some (.slice e)) (hi:(P.info? e).map (fun i=>(i.zero,i.size,i.bytes))=some (some z,size,bytes)) (hzs:z.cells.size=size)
 (hrow:RowO wb e size L M v n xs) (hl:news.length=m * size) (hr:CanRead wb L a news) (h1:∀ u∈news,u.oneCell'=true) (h63:n+m≤maxLen) (hbytes:(n+m) * bytes≤140737488355328)
 (hK:∀ v' L',RowO wb e size L' M v' (n+m) (xs++news)→(v'=.slice none 0 0↔v=.slice none 0 0∧m=0)→K v' wb L'):ValX P (Builtin.append_ #[t,t] ty #[v,.slice (some a) m c]) wb L (tag K):=by
 cases hh:P.info? e with
 | none=>rw[hh] at hi; cases hi
 | some inf =>
  rw[hh] at hi
  simp only[Option.map_some,Option.some.injEq,Prod.mk.injEq] at hi
  exact appendX ht hh hi.1 hi.2.1 hi.2.2 hzs hrow hl hr h1 h63 hbytes hK
theorem CanRead.of_own {b:Nat} {cs news:List Value} {e:TypeId} (hm:(b,.cells cs.toArray e (0,0))∈L) {n:Nat} (hn:news.length=n) (h:cs.take n=news):CanRead wb L ⟨b,0,none⟩ news:=fun w hw j v hj=>by
 subst hn
 have ha:(⟨b,0,none⟩:Addr).add j=⟨b,j,none⟩:=by
  unfold Addr.add; split
  ·rename_i h0; subst h0; rfl
  ·simp
 rw[ha]
 simp only[World.cell?,hw.own b _ hm]
 rw[← h,List.getElem?_take] at hj
 split at hj
 ·simpa using hj
 ·cases hj
theorem RowO.over {e:TypeId} {size n:Nat} {L' M:Own} {v:Value} {xs:List Value} (p:Nat×Obj) (h:RowO wb e size L' M v n xs):∃ L'',RowO wb e size L'' (p::M) v n xs∧∀ w,Sy wb (p::L') w→Sy wb L'' w:=by
 obtain ⟨h0,⟨h1,h2,h3⟩|⟨b,cap,cs,h1,h2,h3⟩⟩:=h
 ·subst h3; exact ⟨p::L',⟨h0,.inl ⟨h1,h2,rfl⟩⟩,fun w hw=>hw⟩
 ·subst h2; exact ⟨_,⟨h0,.inr ⟨b,cap,cs,h1,rfl,h3⟩⟩,fun w hw=>hw.perm (List.Perm.swap ..)⟩
theorem RowO.mem {e:TypeId} {size n:Nat} {L' M:Own} {v:Value} {xs:List Value} (h:RowO wb e size L' M v n xs) {p:Nat×Obj} (hp:p∈M):p∈L':=by
 obtain ⟨h0,⟨h1,h2,h3⟩|⟨b,cap,cs,h1,h2,h3⟩⟩:=h
 ·subst h3; exact hp
 ·subst h2; exact .tail _ hp
theorem RowIn.mono {e:TypeId} {n:Nat} {M L':Own} {v:Value} {xs:List Value} (h:RowIn M e v n xs) (hs:∀ p,p∈M→p∈L'):RowIn L' e v n xs:=by
 obtain ⟨h0,h1|⟨b,cap,cs,h1,h2,h3⟩⟩:=h
 ·exact ⟨h0,.inl h1⟩
 ·exact ⟨h0,.inr ⟨b,cap,cs,h1,hs _ h2,h3⟩⟩
theorem callX_own {f:FuncId} {args:Array Value} {S:Value→Own→Prop} {K:Value→World→Own→Prop} {Kp:KP} (h:∀ w,Sy wb L w→Calls P f args w (fun e w'=>∃ v L',e=.returned v∧Sy wb L' w'∧S v L'))
 (hk:∀ v L',S v L'→K v wb L'):CallX P f args wb L (tag K) (tag Kp):=fun w hw=>(h w hw).mono fun e w' ⟨v,L',he,hs,hS⟩=>by
 subst he; exact ⟨wb,L',hs,hk v L' hS⟩
theorem callX_two {f:FuncId} {args:Array Value} {K:Value→World→Own→Prop} {Kp:KP} (T F:Own→Prop)
 (h:∀ w,Sy wb L w→Calls P f args w (fun e w'=>(e=.returned (.bool true)∧∃ L',T L'∧Sy wb L' w')∨(e=.returned (.bool false)∧∃ L',F L'∧Sy wb L' w')))
 (hT:∀ L',T L'→K (.bool true) wb L') (hF:∀ L',F L'→K (.bool false) wb L'):CallX P f args wb L (tag K) (tag Kp):=fun w hw=>(h w hw).mono fun e w' hq=>by
 rcases hq with ⟨rfl,L',h1,h2⟩|⟨rfl,L',h1,h2⟩
 ·exact ⟨wb,L',h2,hT L' h1⟩
 ·exact ⟨wb,L',h2,hF L' h1⟩
theorem callV_two {c:Cfg} {fo:Operand} {as:Array Operand} {ats:Array TypeId} {d:Option Nat} {ty:TypeId} {pos:String} {af:Array Edge} {g:Option (Nat×Bool)} {f:Value} {args:Array Value}
 {e:Env} {ds:List Deferred} {K:Value→World→Own→Prop} {Kp:KP} (T F:Own→Prop) (hf:ev e fo=f) (ha:as.map (ev e)=args) (hen:∀ g first cap,f=.func (.func g) first cap→entersB c.P g=true)
 (h:∀ w,Sy wb L w→CallsV c.P f args w (fun e w'=>(e=.returned (.bool true)∧∃ L',T L'∧Sy wb L' w')∨(e=.returned (.bool false)∧∃ L',F L'∧Sy wb L' w')))
 (hT:∀ L',T L'→K (.bool true) wb L') (hF:∀ L',F L'→K (.bool false) wb L'):CallV c f args (tag ⟨d,.call ⟨.value fo,as,ats⟩,ty,pos,af,g⟩) wb e ds L (tag K) (tag Kp):=by
 refine callVX hf ha hen (fun w hw=>(h w hw).mono fun en w' hq=>?_)
 rcases hq with ⟨rfl,L',h1,h2⟩|⟨rfl,L',h1,h2⟩
 ·exact ⟨wb,L',h2,hT L' h1⟩
 ·exact ⟨wb,L',h2,hF L' h1⟩
theorem nd_here (d:Nat) (path:List Nat) (ind:Bool) (l:List Fld) (i:Nat) (f:Fld) (hf:l[i]?=some f):(nd (d+1) path ind l)[(ndAt d path ind l i).length]?=some ⟨path++[i],l.take i,f,ind⟩:=by
 obtain ⟨t,ht⟩:=nd_prefix d path ind l (i+1)
 rw[← ht,ndAt_succ d path ind l i f hf]
 simp
theorem nd_within (d:Nat) (path:List Nat) (ind:Bool) (l:List Fld) (i:Nat) (f:Fld) (hf:l[i]?=some f) (j:Nat) (x:FNode) (hx:(nd d (path++[i]) (ind || f.k == 19) f.sub)[j]?=some x) :
 (nd (d+1) path ind l)[(ndAt d path ind l i).length+1+j]?=some x:=by
 obtain ⟨t,ht⟩:=nd_prefix d path ind l (i+1)
 rw[← ht,ndAt_succ d path ind l i f hf]
 have hj:=(List.getElem?_eq_some_iff.1 hx).1
 rw[List.getElem?_append_left (by simp; omega),List.getElem?_append_right (by omega)]
 rw[show (ndAt d path ind l i).length+1+j - (ndAt d path ind l i).length=j+1 by omega]
 simpa using hx
theorem Sy.left {w:World} {A B:Own} (h:Sy wb (A++B) w) (hA:∀ p∈A,wb.heap.size≤p.1):Sy wb B w :=
 h.drop (List.sublist_append_right A B) fun p hp=>by
  rcases List.mem_append.1 hp with hp|hp
  ·exact .inr (hA p hp)
  ·exact .inl hp
theorem Sy.mid {w:World} (A B:Own) {C:Own} (h:Sy wb (A++(B++C)) w) (hB:∀ p∈B,wb.heap.size≤p.1):Sy wb (A++C) w :=
 h.drop ((List.sublist_append_right B C).append_left A) fun p hp=>by
  simp only[qP] at hp ⊢
  rcases hp with hp|hp|hp
  ·exact .inl (.inl hp)
  ·exact .inr (hB p hp)
  ·exact .inl (.inr hp)
theorem makeMapX {t:TypeId} {K:Value→World→Own→Prop} (h:NewX wb L (.map #[] 0) (tag fun b L=>K (.map (some b)) wb L)):ValX P (Instr.makeMap t none) wb L (tag K) :=
 valX_new (f:=fun b=>.map (some b)) (o:=.map #[] 0) (fun w=>by simp[Instr.makeMap]) h
theorem callX_newR {f:FuncId} {args:Array Value} {S:Value→Own→Prop} {K:Value→World→Own→Prop} {Kp:KP} (h:∀ w,Sy wb L w→Calls P f args w (RetsN w S))
 (hk:∀ v M,(∀ p∈M,wb.heap.size≤p.1)→(∀ p∈M,p.1∉L.map (·.1))→S v M→K v wb (L++M)):CallX P f args wb L (tag K) (tag Kp):=fun w hw =>
 (h w hw).mono fun e w' ⟨v,M,he,hs,hM,hS⟩=>by
  subst he
  refine ⟨wb,L++M,(hw.add hs hM).perm List.perm_append_comm,hk v M (fun p hp=>Nat.le_trans hw.size (hM p hp)) (fun p hp hm=>?_) hS⟩
  obtain ⟨q,hq,e⟩:=List.mem_map.1 hm
  have h1:=hM p hp
  have h2:=hw.lt hq
  omega
theorem forgetS {c:Cfg} {code:Code} {Q:Post} {e:Env} {ds:List Deferred} (F:Env→Prop) (hF:F e) (h:∀ e,F e→SemT c (tag code) (tag Q) wb e ds L):SemT c (tag code) (tag Q) wb e ds L:=h e hF
theorem rangeY {c:Cfg} {fo:Operand} {ps:List Nat} {A B:Code} {Q:Post} {e:Env} {ds:List Deferred} {g:FuncId} {first cap:Array Value} (hc:c.r=none) (hf:ev e fo=.func (.func g) first cap) (hen:entersB c.P g=true)
 (h:∀ fn tm d l rec,rec=(⟨.ready,none,fn,tm,ps.toArray,A,B,d⟩:Loop)→Rep c.n { tmps:=tm,defers:=[] } e []→d≠l→wb.heap.size≤d→wb.heap.size≤l→d∉L.map (·.1)→l∉L.map (·.1)→∀ w,Sy wb ((l,.loop rec)::(d,.deferred (some []))::L) w →
  Calls c.P g (first++#[.func (.yield l) #[] #[]]++cap) w (loopEnd l Q e ({ target:=.collected d,args:=#[] }::ds))) :
 SemT c (tag (.rangeFunc fo ps.toArray A B)) (tag Q) wb e ds L :=
 rangeX hc hf hen (fun fn tm d l h1 h2 h3 h4 h5 h6 w hw=>h fn tm d l _ rfl h1 h2 h3 h4 h5 h6 w hw)
@[push_cast] theorem putL_zip (e:Env) (t:Nat) (v:Value) (ps:List Nat) (vs:List Value):putL e ((t::ps).zip (v::vs))=putL (upd e t v) (ps.zip vs):=(rfl)
@[push_cast] theorem putL_zip0 (e:Env):putL e (([]:List Nat).zip ([]:List Value))=e:=(rfl)
section jumps
variable (Q:Post) (x:Exit) (e:Env) (ds:List Deferred)
@[push_cast] theorem jumpP_none:jumpP Q none x wb e ds L=Q .normal wb e ds L:=(rfl)
@[push_cast] theorem jumpP_ret:jumpP Q (some .ret) x wb e ds L=Q .ret wb e ds L:=(rfl)
@[push_cast] theorem jumpP_exit (id:Nat):jumpP Q (some (.exit id)) x wb e ds L=Q (.exit id) wb e ds L:=(rfl)
end jumps
section marks
variable (c:Cfg) (e:Env) (ds:List Deferred) {rs:List ResultVar} {R:Ending→World→Prop} (P)
@[push_cast] theorem retM_ret:retM P rs (tag R) .ret wb e ds L=leaveL P rs R ds wb e L:=(rfl)
@[push_cast] theorem retM_normal:retM P rs (tag R) .normal wb e ds L=leaveL P rs R ds wb e L:=(rfl)
@[push_cast] theorem leaveL_nil:leaveL P rs R [] wb e L=ResL P wb L e rs fun vs=>∀ w,Sy wb L w→R (.returned (tup vs)) w:=(rfl)
@[push_cast] theorem roundP_normal (l:Nat):roundP l (tag R) .normal wb e ds L=ended l L wb none R:=(rfl)
@[push_cast] theorem roundP_ret (l:Nat):roundP l (tag R) .ret wb e ds L=ended l L wb (some .ret) R:=(rfl)
@[push_cast] theorem roundP_exit (l id:Nat):roundP l (tag R) (.exit id) wb e ds L=ended l L wb (some (.exit id)) R:=(rfl)
end marks
open Go Go.Lib
variable {wb:World} {L:Own} {P:Program}
def bytesV (s:List UInt8):List Value:=s.map fun b=>Value.int .u8 b.toNat
theorem bytesV_length (s:List UInt8):(bytesV s).length=s.length:=by simp[bytesV]
theorem bytesV_append (s t:List UInt8):bytesV (s++t)=bytesV s++bytesV t:=by simp[bytesV]
theorem bytesV_one (s:List UInt8):∀ u∈bytesV s,u.oneCell'=true:=by
 intro u hu
 simp only[bytesV,List.mem_map] at hu
 obtain ⟨b,_,rfl⟩:=hu
 rfl
theorem strCells_eq (s:List UInt8):strCells ⟨s.toArray⟩=bytesV s:=rfl
theorem appendS {t u ty e:TypeId} {n:Nat} {M:Own} {v:Value} {xs:List Value} (s:List UInt8) {K:Value→World→Own→Prop}
 (ht:P.underlying t=some (.slice e)) (hu:P.underlying u=some .string) (hi:(P.info? e).map (fun i=>(i.zero,i.size,i.bytes))=some (some (.int .u8 0),1,1))
 (hrow:RowO wb e 1 L M v n xs) (hb:n+s.length≤140737488355328)
 (hK:∀ v' L',RowO wb e 1 L' M v' (n+s.length) (xs++bytesV s)→K v' wb L'):ValX P (Builtin.append_ #[t,u] ty #[v,str s]) wb L (tag K):=by
 cases hh:P.info? e with
 | none=>rw[hh] at hi; cases hi
 | some inf =>
  rw[hh] at hi
  simp only[Option.map_some,Option.some.injEq,Prod.mk.injEq] at hi
  obtain ⟨hz,hsize,hby⟩:=hi
  intro w hw
  have hsz:(⟨s.toArray⟩:ByteArray).size=s.length:=rfl
  obtain ⟨hxl,hrow⟩:=hrow
  rcases hrow with ⟨rfl,rfl,rfl⟩|⟨b,cap,cs,rfl,rfl,hbb,hnc,hcm,hcl,hct⟩
  ·have hx:xs=[]:=by simpa using hxl
   subst hx
   rcases Nat.eq_zero_or_pos s.length with h0|hpos
   ·have hs0:s=[]:=List.eq_nil_of_length_eq_zero h0
    subst hs0
    refine ⟨.slice none 0 0,w,wb,L,?_,hw,hK _ _ ⟨by simp[bytesV],.inl ⟨rfl,rfl,rfl⟩⟩⟩
    have h00:(⟨#[]⟩:ByteArray).size=0:=rfl
    simp[Builtin.append_,run_underlying ht,run_underlying hu,sizeOf,typeInfo,hh,Builtin.lenOf,Builtin.firstCells,h00,hsize]
   ·have hrun:=run_append_nil_string (P:=P) w t u ty e inf _ ht hu hh hz ⟨s.toArray⟩ (by rw[hsz]; exact hpos) (by rw[hsz]; omega) (by rw[hsz,hby]; omega)
    rw[hsz] at hrun
    have hge:=grownCap_ge w s.length 0 e
    have hle:=grownCap_le_maxLen w s.length 0 e (by simp only[maxLen]; omega)
    refine ⟨_,_,wb,_,hrun,hw.drewn.new _,hK _ _ ⟨by simp[bytesV],.inr ⟨w.heap.size,grownCap w s.length 0 e,bytesV s++(Builtin.zeroCells (Value.int .u8 0).cells (grownCap w s.length 0 e - s.length)).toList,by simp,?_,hw.size,by omega,hle,?_,?_⟩⟩⟩
    ·show (w.heap.size,_)::L=_
     congr 2
     rw[Obj.cells.injEq]
     refine ⟨?_,rfl,rfl⟩
     apply Array.toList_inj.1
     simp[bytesV]
    ·have hz1:(Builtin.zeroCells (Value.int .u8 0).cells (grownCap w s.length 0 e - s.length)).toList.length=grownCap w s.length 0 e - s.length:=by
      rw[Array.length_toList,zeroCells_length]; exact Nat.mul_one _
     rw[qA,bytesV_length,hz1]
     omega
    ·rw[Nat.zero_add,Nat.mul_one,← bytesV_length s,List.take_left]
     simp
  ·have hbo:=hw.own b _ (List.mem_cons_self ..)
   have hcells:∀ j u,xs[j]?=some u→w.cell? ((⟨b,0,none⟩:Addr).add j)=some u:=by
    intro j u hu
    have hadd:(⟨b,0,none⟩:Addr).add j=⟨b,j,none⟩:=by unfold Addr.add; split<;>simp_all
    rw[hadd]
    simp only[World.cell?,hbo]
    rw[← hct,List.getElem?_take] at hu
    split at hu
    ·simpa using hu
    ·cases hu
   have hxn:xs.length=n:=by simpa using hxl
   have hcc:cs.length=cap:=by simpa using hcl
   have hct':cs.take n=xs:=by simpa using hct
   rcases Nat.lt_or_ge cap (n+s.length) with hg|hroom
   ·have hrun:=run_append_grow_string (P:=P) w t u ty e inf _ ht hu hh hz ⟨b,0,none⟩ n cap xs (by rw[hsize,hxl]) hcells ⟨s.toArray⟩ (by rw[hsz]; exact hg) (by rw[hsz]; omega) (by rw[hsz,hby]; exact growslice_fits hg (by omega))
    rw[hsz] at hrun
    have hge:=grownCap_ge w (n+s.length) cap e
    have hle:=grownCap_le_maxLen w (n+s.length) cap e (by simp only[maxLen]; omega)
    refine ⟨_,_,wb,(w.heap.size,.cells (xs.toArray++(strCells ⟨s.toArray⟩).toArray++Builtin.zeroCells (Value.int .u8 0).cells (grownCap w (n+s.length) cap e - (n+s.length))) e)::M,hrun,?_,hK _ _ ⟨by simp[hxn,bytesV_length],.inr ⟨w.heap.size,grownCap w (n+s.length) cap e,xs++bytesV s++(Builtin.zeroCells (Value.int .u8 0).cells (grownCap w (n+s.length) cap e - (n+s.length))).toList,rfl,?_,hw.size,hge,hle,?_,?_⟩⟩⟩
    ·exact (hw.drewn.new (.cells (xs.toArray++(strCells ⟨s.toArray⟩).toArray++Builtin.zeroCells (Value.int .u8 0).cells (grownCap w (n+s.length) cap e - (n+s.length))) e)).lose (i:=1) (b:=b) (o:=.cells cs.toArray e (0,0)) (by simp) hbb
    ·simp[strCells_eq]
    ·have hz1:(Builtin.zeroCells (Value.int .u8 0).cells (grownCap w (n+s.length) cap e - (n+s.length))).toList.length=grownCap w (n+s.length) cap e - (n+s.length):=by
      rw[Array.length_toList,zeroCells_length]; exact Nat.mul_one _
     rw[qA,qA,hxn,bytesV_length,hz1]
     omega
    ·have:(xs++bytesV s).length=(n+s.length) * 1:=by rw[qA,hxn,bytesV_length,Nat.mul_one]
     rw[← this,List.take_left]
   ·have hrun:=run_append_room_string (P:=P) w t u ty e inf ht hu hh hsize b n cap cs.toArray hbo ⟨s.toArray⟩ (by rw[hsz]; exact hroom) (by rw[hsz]; simp; omega)
    rw[hsz] at hrun
    refine ⟨_,_,wb,(b,.cells (xs++bytesV s++cs.drop (n+s.length)).toArray e (0,0))::M,hrun,?_,hK _ _ ⟨by simp[hxn,bytesV_length],.inr ⟨b,cap,xs++bytesV s++cs.drop (n+s.length),rfl,rfl,hbb,hroom,hcm,?_,?_⟩⟩⟩
    ·have h2:=hw.set (i:=0) (b:=b) (o:=.cells cs.toArray e (0,0)) (.cells (xs++bytesV s++cs.drop (n+s.length)).toArray e (0,0)) (by simp)
     simp only[List.set_cons_zero] at h2
     have h3:w.setRow b (cs.toArray.toList.take n++strCells ⟨s.toArray⟩++cs.toArray.toList.drop (n+s.length)).toArray={ w with heap:=w.heap.setIfInBounds b (.cells (xs++bytesV s++cs.drop (n+s.length)).toArray e (0,0)) }:=by
      unfold World.setRow
      congr 1
      apply Array.ext_getElem?
      intro j
      rw[Array.getElem?_modify,Array.getElem?_setIfInBounds]
      have hlt:=(Array.getElem?_eq_some_iff.1 hbo).1
      split
      ·rename_i hj; subst hj; rw[hbo]; simp[hct',hlt,strCells_eq]
      ·rfl
     rw[h3]; exact h2
    ·rw[qA,qA,List.length_drop,hxn,bytesV_length]; omega
    ·have:(xs++bytesV s).length=(n+s.length) * 1:=by rw[qA,hxn,bytesV_length,Nat.mul_one]
     rw[← this,List.take_left]
theorem appendB {t ty e:TypeId} {n b1:Nat} {M:Own} {v:Value} {xs:List Value} (s:List UInt8) {K:Value→World→Own→Prop} {L0:Own}
 (ht:P.underlying t=some (.slice e)) (hi:(P.info? e).map (fun i=>(i.zero,i.size,i.bytes))=some (some (.int .u8 0),1,1))
 (hrow:RowO wb e 1 L0 M v n xs) (hb1:wb.heap.size≤b1) (hb:n+s.length≤140737488355328)
 (hK:∀ v' L',RowO wb e 1 L' ((b1,.cells (bytesV s).toArray e (0,0))::M) v' (n+s.length) (xs++bytesV s)→K v' wb L') :
 ValX P (Builtin.append_ #[t,t] ty #[v,.slice (some ⟨b1,0,none⟩) s.length s.length]) wb ((b1,.cells (bytesV s).toArray e (0,0))::L0) (tag K):=by
 obtain ⟨L2,hro2,hs2⟩:=hrow.over (b1,Obj.cells (bytesV s).toArray e (0,0))
 refine valX_weak hs2 (appendI ht hi rfl hro2 (news:=bytesV s) (m:=s.length) (by simp[bytesV_length]) (CanRead.of_own (n:=s.length) (hro2.mem (.head _)) (bytesV_length s) (by rw[← bytesV_length s,List.take_length])) (bytesV_one s) (by simp only[maxLen]; omega) (by omega) (fun v' L' hr _=>hK v' L' hr))
theorem RowO.new {e:TypeId} {size n:Nat} {L' M:Own} {v:Value} {xs:List Value} (h:RowO wb e size L' M v n xs) (hM:∀ p∈M,wb.heap.size≤p.1):∀ p∈L',wb.heap.size≤p.1:=by
 obtain ⟨h0,⟨h1,h2,h3⟩|⟨b,cap,cs,h1,h2,h3,_⟩⟩:=h
 ·subst h3; exact hM
 ·subst h2
  intro p hp
  rcases List.mem_cons.1 hp with rfl|hp
  ·exact h3
  ·exact hM p hp
theorem RowO.shrink {e:TypeId} {size n:Nat} {L' M:Own} (A:Own) {v:Value} {xs:List Value} (h:RowO wb e size L' (A++M) v n xs) (hA:∀ p∈A,wb.heap.size≤p.1):∃ L'',RowO wb e size L'' M v n xs∧∀ w,Sy wb L' w→Sy wb L'' w:=by
 obtain ⟨h0,⟨h1,h2,h3⟩|⟨b,cap,cs,h1,h2,h3⟩⟩:=h
 ·subst h3; exact ⟨M,⟨h0,.inl ⟨h1,h2,rfl⟩⟩,fun w hw=>hw.left hA⟩
 ·subst h2; exact ⟨_,⟨h0,.inr ⟨b,cap,cs,h1,rfl,h3⟩⟩,fun w hw=>hw.mid [_] A hA⟩
theorem RowO.cast {e:TypeId} {size n n':Nat} {L' M:Own} {v:Value} {xs xs':List Value} (h:RowO wb e size L' M v n xs) (hn:n=n') (hx:xs=xs'):RowO wb e size L' M v n' xs':=by subst hn; subst hx; exact h
variable {wb:World} {L:Own} {P:Program}
theorem convS {src dst e:TypeId} {n:Nat} {M:Own} {v:Value} {s:List UInt8} {K:Value→World→Own→Prop} (hs:P.underlying src=some (.slice e)) (he:P.underlying e=some (.int .u8)) (hd:P.underlying dst=some .string)
 (hrow:RowO wb e 1 L M v n (bytesV s)) (hK:K (str s) wb L):ConvX P src dst v wb L (tag K):=by
 obtain ⟨hxl,hrow⟩:=hrow
 have hn:s.length=n:=by rw[bytesV_length] at hxl; omega
 subst hn
 rcases hrow with ⟨rfl,h0,rfl⟩|⟨b,cap,cs,rfl,rfl,hbb,hnc,hcm,hcl,hct⟩
 ·have hs0:s=[]:=List.eq_nil_of_length_eq_zero h0
  subst hs0
  intro w hw
  refine ⟨_,w,wb,L,?_,hw,hK⟩
  rw[run_convert_bytes_string w src dst e none 0 0 hs he hd]
  simp[Conv.bytesToString]
  rfl
 ·intro w hw
  refine ⟨_,w,wb,_,run_convert_bytes_back w src dst e ⟨b,0,none⟩ cap s hs he hd (fun j hj=>?_),hw,hK⟩
  have ha:(⟨b,0,none⟩:Addr).add j=⟨b,j,none⟩:=by
   unfold Addr.add; split
   ·rename_i h0; subst h0; rfl
   ·simp
  rw[ha]
  simp only[World.cell?,hw.own b _ (List.mem_cons_self ..)]
  rw[Nat.mul_one] at hct
  have h2:(bytesV s)[j]?=some (.int .u8 (s[j].toNat:Int)):=by simp[bytesV,qH hj]
  rw[← hct,List.getElem?_take] at h2
  rw[if_pos hj] at h2
  simpa using h2
end Go.K
