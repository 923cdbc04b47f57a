/- YtilejcofleeeiaaGreatDoor: the walk calculus, part Kc: proved rules by which the walks of this seat are made. -/
import Derived.Test.YtilejcofleeeiaaGreatDoorKa
import Derived.Test.YtilejcofleeeiaaGreatDoorKb
namespace Go.K
open Go
open List renaming getElem?_eq_getElem → qH
set_option linter.unusedVariables false
set_option linter.unusedSimpArgs false
variable {c:Cfg} {P:Program} {o:Oper} {wb:World} {e:Env} {ds:List Deferred} {L:Own} {K:KV} {Kp:KP}
/-! ### Worlds -/
theorem Sy.frame {w w':World} (h:Sy wb L w) (k:Sy w [] w'):Sy wb L w':=by
 refine ⟨k.os.trans h.os,k.tape.trans h.tape,k.output.trans h.output,Nat.le_trans h.size k.size,fun b o hm=>?_,h.nodup,fun i hi hn=>?_⟩
 ·exact (k.rest b (h.lt hm) (by simp)).trans (h.own b o hm)
 ·exact (k.rest i (Nat.lt_of_lt_of_le hi h.size) (by simp)).trans (h.rest i hi hn)
theorem Sy.frame1 {w w':World} {i b:Nat} {o o':Obj} (h:Sy wb L w) (hi:L[i]?=some (b,o)) (k:Sy w [(b,o')] w'):Sy wb (L.set i (b,o')) w':=by
 have hil:i < L.length:=(List.getElem?_eq_some_iff.1 hi).1
 have hie:L[i]=(b,o):=(List.getElem?_eq_some_iff.1 hi).2
 have hmap:(L.set i (b,o')).map (·.1)=L.map (·.1):=by
  rw[List.map_set]
  apply List.ext_getElem?
  intro j
  rw[List.getElem?_set]
  split
  ·rename_i hij; subst hij
   simp[hil,hie]
  ·rfl
 refine ⟨k.os.trans h.os,k.tape.trans h.tape,k.output.trans h.output,Nat.le_trans h.size k.size,fun b' o'' hm=>?_,?_,fun j hj hn=>?_⟩
 ·obtain ⟨j,hj⟩:=List.mem_iff_getElem?.1 hm
  rw[List.getElem?_set] at hj
  split at hj
  ·simp at hj
   obtain ⟨e1,e2⟩:=hj
   rw[← e1,← e2]
   exact k.own b o' (by simp)
  ·rename_i hij
   have hmem:(b',o'')∈L:=List.mem_iff_getElem?.2 ⟨j,hj⟩
   have hne:b'≠b:=fun e=>by
    subst e
    have hjl:j < L.length:=(List.getElem?_eq_some_iff.1 hj).1
    have hje:L[j]=(b',o''):=(List.getElem?_eq_some_iff.1 hj).2
    have hnd:=h.nodup
    rw[List.nodup_iff_pairwise_ne,List.pairwise_iff_getElem] at hnd
    rcases Nat.lt_or_gt_of_ne hij with hlt|hlt
    ·exact hnd i j (by simpa using hil) (by simpa using hjl) hlt (by simp[hie,hje])
    ·exact hnd j i (by simpa using hjl) (by simpa using hil) hlt (by simp[hie,hje])
   exact (k.rest b' (h.lt hmem) (by simpa using hne)).trans (h.own b' o'' hmem)
 ·rw[hmap]; exact h.nodup
 ·rw[hmap] at hn
  have hb:j≠b:=fun e=>hn (by rw[e]; exact List.mem_map.2 ⟨(b,o),by rw[← hie]; exact List.getElem_mem hil,rfl⟩)
  exact (k.rest j (Nat.lt_of_lt_of_le hj h.size) (by simpa using hb)).trans (h.rest j hj hn)
theorem Sy.drop {M:Own} {w:World} (h:Sy wb L w) (hs:M.Sublist L) (hd:∀ p,p∈L→p∈M∨wb.heap.size≤p.1):Sy wb M w:=by
 refine ⟨h.os,h.tape,h.output,h.size,fun b o hm=>h.own b o (hs.subset hm),(hs.map _).nodup h.nodup,fun k hk hn=>h.rest k hk fun hm=>?_⟩
 obtain ⟨p,hp,rfl⟩:=List.mem_map.1 hm
 rcases hd p hp with h1|h1
 ·exact hn (List.mem_map.2 ⟨p,h1,rfl⟩)
 ·omega
theorem Sy.ext {w w' w'':World} (h:Sy w [] w') (k:Sy w' [] w''):Sy w [] w'':=h.frame k
theorem Sy.below {w w':World} (h:Sy w [] w'):RowKit.Below w.heap.size w w':=⟨h.os,h.tape,h.output,h.size,fun k hk=>h.rest k hk (by simp)⟩
theorem Sy.of_below {w w':World} (h:RowKit.Below w.heap.size w w'):Sy w [] w':=⟨h.os,h.tape,h.output,h.size,fun _ _ hm=>by simp at hm,by simp,fun k hk _=>h.block k hk⟩
theorem Sy.rebase {w:World} (h:Sy wb L w):Sy w L w:=⟨rfl,rfl,rfl,Nat.le_refl _,h.own,h.nodup,fun _ _ _=>rfl⟩
/-! ### Cells -/
def At (w:World) (b off:Nat) (vs:List Value):Prop:=∃ cs ty fr,w.heap[b]?=some (.cells cs ty fr)∧(cs.toList.drop off).take vs.length=vs
theorem At.of_block {w w':World} {b off:Nat} {vs:List Value} (h:At w b off vs) (hb:w'.heap[b]?=w.heap[b]?):At w' b off vs :=
 let ⟨cs,ty,fr,h1,h2⟩:=h; ⟨cs,ty,fr,hb.trans h1,h2⟩
theorem At.lt {w:World} {b off:Nat} {vs:List Value} (h:At w b off vs):b < w.heap.size :=
 let ⟨_,_,_,h1,_⟩:=h; (Array.getElem?_eq_some_iff.1 h1).1
theorem At.cell {w:World} {b off:Nat} {vs:List Value} (h:At w b off vs) (i:Nat) (v:Value) (hi:vs[i]?=some v):w.cell? ⟨b,off+i,none⟩=some v:=by
 obtain ⟨cs,ty,fr,h1,h2⟩:=h
 have hl:i < vs.length:=(List.getElem?_eq_some_iff.1 hi).1
 simp only[World.cell?,h1]
 have h3:((cs.toList.drop off).take vs.length)[i]?=some v:=by rw[h2]; exact hi
 rw[List.getElem?_take_of_lt hl,List.getElem?_drop,Array.getElem?_toList] at h3
 simpa using h3
theorem At.sub {w:World} {b off:Nat} {vs:List Value} (h:At w b off vs) (i:Nat) (us:List Value) (hu:(vs.drop i).take us.length=us):At w b (off+i) us:=by
 obtain ⟨cs,ty,fr,h1,h2⟩:=h
 refine ⟨cs,ty,fr,h1,?_⟩
 rw[← hu,List.length_take,List.length_drop]
 conv=>rhs; rw[← h2]
 rw[List.drop_take,List.take_take,List.drop_drop]
theorem At.of_own {w:World} {b off:Nat} {cs:List Value} {ty:TypeId} {fr:Nat×Nat} {vs:List Value} (h:Sy wb L w) (hm:(b,.cells cs.toArray ty fr)∈L) (hv:(cs.drop off).take vs.length=vs):At w b off vs :=
 ⟨_,_,_,h.own b _ hm,by simpa using hv⟩
theorem loadCellsFrom_at {w:World} {b off:Nat} {vs:List Value} (h:At w b off vs):∀ (n i:Nat) (acc:Array Value),i+n=vs.length →
 (loadCellsFrom ⟨b,off,none⟩ i n acc).run P w=.ok (acc++(vs.drop i).toArray) w:=by
 intro n
 induction n with
 | zero=>intro i acc hi; simp[loadCellsFrom,show vs.drop i=[] by simp; omega]
 | succ n ih =>
  intro i acc hi
  have hv:vs[i]?=some (vs[i]'(by omega)):=qH (by omega)
  have hc:=h.cell i _ hv
  have ha:(⟨b,off,none⟩:Addr).add i=⟨b,off+i,none⟩:=by
   unfold Addr.add; split
   ·rename_i h0; subst h0; rfl
   ·rfl
  simp only[loadCellsFrom,Sem.run_bind,ha]
  have hl:(load ⟨b,off+i,none⟩).run P w=.ok (vs[i]'(by omega)) w:=by simp[run_load,hc]
  rw[hl]
  simp only[Result.andThen_ok]
  rw[ih (i+1) _ (by omega)]
  congr 1
  have:vs.drop i=vs[i]::vs.drop (i+1):=by rw[List.drop_eq_getElem_cons]
  rw[this]
  apply Array.ext'
  simp
def shapeOf (P:Program) (t:TypeId):Option (Bool×Nat) :=
 match P.underlying t,P.info? t with
 | some (.struct _),some i=>some (true,i.size)
 | some (.array _ _),some i=>some (true,i.size)
 | some _,some _=>some (false,1)
 | _,_=>none
theorem isAgg_run {t:TypeId} {b:Bool} {n:Nat} (h:shapeOf P t=some (b,n)) (w:World):(isAgg t).run P w=.ok b w:=by
 unfold shapeOf at h
 split at h
 ·rename_i hu _; simp at h; simp[isAgg,underlying,hu,h]
 ·rename_i hu _; simp at h; simp[isAgg,underlying,hu,h]
 ·rename_i d _ h1 h2 hu _
  simp at h
  simp only[isAgg,underlying,Sem.run_bind,run_program,Result.andThen_ok,hu]
  cases d<;>simp[h.1]<;>first|exact absurd rfl (h1 _)|exact absurd rfl (h2 _ _)
 ·cases h
theorem sizeOf_run {t:TypeId} {n:Nat} (h:shapeOf P t=some (true,n)) (w:World):(sizeOf t).run P w=.ok n w:=by
 unfold shapeOf at h
 split at h
 ·rename_i hi; simp at h; simp[sizeOf,typeInfo,hi,h]
 ·rename_i hi; simp at h; simp[sizeOf,typeInfo,hi,h]
 ·simp at h
 ·cases h
theorem loadAt_agg {w:World} {t:TypeId} {b off:Nat} {vs:List Value} (ht:shapeOf P t=some (true,vs.length)) (h:At w b off vs) :
 (Instr.loadAt t (.pointer (some ⟨b,off,none⟩))).run P w=.ok (.agg vs.toArray) w:=by
 simp only[Instr.loadAt,Instr.sureAddr,loadVar,Sem.run_bind,Sem.run_pure,Result.andThen_ok,isAgg_run ht,if_true,sizeOf_run ht,loadCells]
 rw[loadCellsFrom_at h vs.length 0 #[] (by omega)]
 simp
theorem loadAt_one {w:World} {t:TypeId} {b off:Nat} {v:Value} (ht:shapeOf P t=some (false,1)) (h:At w b off [v]) :
 (Instr.loadAt t (.pointer (some ⟨b,off,none⟩))).run P w=.ok v w:=by
 have hc:=h.cell 0 v rfl
 simp only[Nat.add_zero] at hc
 simp[Instr.loadAt,Instr.sureAddr,loadVar,isAgg_run ht,run_load,hc]
/-! ### Loads -/
theorem lAg {t:TypeId} {b off n:Nat} {cs vs:List Value} {ty:TypeId} {fr:Nat×Nat} {K:Value→Prop} (ht:shapeOf P t=some (true,n)) (hm:(b,.cells cs.toArray ty fr)∈L)
 (hv:(cs.drop off).take n=vs) (hn:vs.length=n) (h:K (.agg vs.toArray)):LoadX P t (.pointer (some ⟨b,off,none⟩)) wb L (tag K) :=
 ⟨_,fun _ hw=>loadAt_agg (by rw[ht,hn]) (.of_own hw hm (by rw[hn]; exact hv)),h⟩
theorem loadX_one {t:TypeId} {b off:Nat} {cs:List Value} {v:Value} {ty:TypeId} {fr:Nat×Nat} {K:Value→Prop} (ht:shapeOf P t=some (false,1)) (hm:(b,.cells cs.toArray ty fr)∈L)
 (hv:(cs.drop off).take 1=[v]) (h:K v):LoadX P t (.pointer (some ⟨b,off,none⟩)) wb L (tag K) :=
 ⟨_,fun _ hw=>loadAt_one ht (.of_own hw hm hv),h⟩
theorem loadX_aggF {t:TypeId} {b off:Nat} {vs:List Value} {K:Value→Prop} (ht:shapeOf P t=some (true,vs.length)) (ha:At wb b off vs) (hb:b∉L.map (·.1)) (h:K (.agg vs.toArray)) :
 LoadX P t (.pointer (some ⟨b,off,none⟩)) wb L (tag K) :=
 ⟨_,fun _ hw=>loadAt_agg ht (ha.of_block (hw.rest b ha.lt hb)),h⟩
theorem loadX_oneF {t:TypeId} {b off:Nat} {v:Value} {K:Value→Prop} (ht:shapeOf P t=some (false,1)) (ha:At wb b off [v]) (hb:b∉L.map (·.1)) (h:K v) :
 LoadX P t (.pointer (some ⟨b,off,none⟩)) wb L (tag K) :=
 ⟨_,fun _ hw=>loadAt_one ht (ha.of_block (hw.rest b ha.lt hb)),h⟩
class Shp (P:Program) (t:TypeId) (g:outParam Bool) (n:outParam Nat):Prop where
 eq:shapeOf P t=some (g,n)
class Siz (P:Program) (t:TypeId) (n:outParam Nat):Prop where
 eq:(P.info? t).map (·.size)=some n
theorem mem0 {α:Type} {a:α} {l:List α}:a∈a::l:=.head _
theorem mem1 {α:Type} {a b:α} {l:List α}:a∈b::a::l:=.tail _ mem0
theorem mem2 {α:Type} {a b c:α} {l:List α}:a∈b::c::a::l:=.tail _ mem1
theorem mem3 {α:Type} {a b c d:α} {l:List α}:a∈b::c::d::a::l:=.tail _ mem2
theorem mem4 {α:Type} {a b c d e:α} {l:List α}:a∈b::c::d::e::a::l:=.tail _ mem3
theorem mem5 {α:Type} {a b c d e f:α} {l:List α}:a∈b::c::d::e::f::a::l:=.tail _ mem4
/-! ### Stores -/
def splice (l:List Value) (off:Nat) (vs:List Value):List Value:=l.take off++(vs++l.drop (off+vs.length))
theorem storeCells_run:∀ (vs:List Value) (w:World) (b off i:Nat) (cs:List Value) (ty:TypeId),(∀ v∈vs,v.oneCell'=true)→w.heap[b]?=some (.cells cs.toArray ty (0,0))→off+i+vs.length≤cs.length →
 (storeCells ⟨b,off,none⟩ vs i).run P w=.ok () { w with heap:=w.heap.setIfInBounds b (.cells (splice cs (off+i) vs).toArray ty (0,0)) }:=by
 intro vs
 induction vs with
 | nil =>
  intro w b off i cs ty _ hb hl
  simp only[storeCells,Sem.run_pure,splice,List.nil_append,List.length_nil,Nat.add_zero,List.take_append_drop]
  congr 1
  cases w with
  | mk heap tape drawn os output =>
   simp only
   congr 1
   apply Array.ext_getElem?
   intro j
   rw[Array.getElem?_setIfInBounds]
   split
   ·rename_i h; subst h
    simp only at hb
    have:=(Array.getElem?_eq_some_iff.1 hb).1
    rw[if_pos this]; exact hb
   ·rfl
 | cons v vs ih =>
  intro w b off i cs ty h1 hb hl
  simp only[List.length_cons] at hl
  have hv:=h1 v (by simp)
  have ha:(⟨b,off,none⟩:Addr).add i=⟨b,off+i,none⟩:=by
   unfold Addr.add; split
   ·rename_i h0; subst h0; rfl
   ·rfl
  have hblt:=(Array.getElem?_eq_some_iff.1 hb).1
  have hcell:w.cell? ⟨b,off+i,none⟩=some (cs[off+i]'(by omega)):=by
   simp only[World.cell?,hb]
   simp[qH (show off+i < cs.length by omega)]
  have hfr:w.frozen? ⟨b,off+i,none⟩=false:=by simp[World.frozen?,hb]
  simp only[storeCells,ha,Sem.run_bind]
  rw[run_store P w _ v .plain hv]
  simp only[hcell,hfr,Bool.false_eq_true,if_false,Result.andThen_ok]
  have hset:(w.setCell ⟨b,off+i,none⟩ v).heap[b]?=some (.cells (cs.set (off+i) v).toArray ty (0,0)):=by
   simp only[World.setCell,Array.getElem?_modify,hb]
   simp
  rw[ih (w.setCell ⟨b,off+i,none⟩ v) b off (i+1) (cs.set (off+i) v) ty (fun u hu=>h1 u (by simp[hu])) hset (by simp; omega)]
  congr 1
  have hsp:splice (cs.set (off+i) v) (off+(i+1)) vs=splice cs (off+i) (v::vs):=by
   have e1:off+(i+1)=(off+i)+1:=by omega
   rw[e1]
   unfold splice
   have t1:(cs.set (off+i) v).take (off+i+1)=cs.take (off+i)++[v]:=by
    rw[List.take_succ_eq_append_getElem (by simp; omega),List.take_set_of_le (by omega)]
    simp
   have t2:(cs.set (off+i) v).drop (off+i+1+vs.length)=cs.drop (off+i+(v::vs).length):=by
    rw[List.drop_set_of_lt (by omega)]
    simp only[List.length_cons]
    congr 1
    omega
   rw[t1,t2]
   simp
  rw[hsp]
  cases w with
  | mk heap tape drawn os output =>
   simp only[World.setCell]
   congr 1
   apply Array.ext_getElem?
   intro j
   simp only[Array.getElem?_setIfInBounds,Array.size_modify,Array.getElem?_modify]
   split
   ·rfl
   ·rfl
theorem storeAt_run {w:World} {t:TypeId} {b off:Nat} {cs vs:List Value} {ty:TypeId} {x:Value} {n:Nat} (hi:(P.info? t).map (·.size)=some n) (hx:x.cells=vs.toArray) (hn:vs.length=n) (h1:∀ v∈vs,v.oneCell'=true)
 (hb:w.heap[b]?=some (.cells cs.toArray ty (0,0))) (hl:off+n≤cs.length) :
 (Instr.storeAt t (.pointer (some ⟨b,off,none⟩)) x).run P w=.ok () { w with heap:=w.heap.setIfInBounds b (.cells (splice cs off vs).toArray ty (0,0)) }:=by
 have hsz:(sizeOf t).run P w=.ok n w:=by
  cases hh:P.info? t with
  | none=>rw[hh] at hi; cases hi
  | some i=>rw[hh] at hi; simp at hi; simp[sizeOf,typeInfo,hh,hi]
 simp only[Instr.storeAt,Instr.sureAddr,storeVar,Sem.run_bind,Sem.run_pure,Result.andThen_ok,hx,hsz]
 simp only[List.size_toArray,hn,ne_eq,not_true_eq_false,if_false]
 have:=storeCells_run (P:=P) vs w b off 0 cs ty h1 hb (by omega)
 simpa using this
theorem Sy.set {w:World} {i b:Nat} {o:Obj} (o':Obj) (h:Sy wb L w) (hi:L[i]?=some (b,o)):Sy wb (L.set i (b,o')) { w with heap:=w.heap.setIfInBounds b o' }:=by
 have hm:(b,o)∈L:=List.mem_iff_getElem?.2 ⟨i,hi⟩
 have hb:=h.own b o hm
 have hlt:=(Array.getElem?_eq_some_iff.1 hb).1
 refine h.frame1 hi ⟨rfl,rfl,rfl,by simp,fun b' o'' hm'=>?_,by simp,fun k hk hn=>?_⟩
 ·simp only[List.mem_singleton,Prod.mk.injEq] at hm'
  obtain ⟨rfl,rfl⟩:=hm'
  simp[hlt]
 ·simp only[List.map_cons,List.map_nil,List.mem_singleton] at hn
  show (w.heap.setIfInBounds b o')[k]?=_
  rw[Array.getElem?_setIfInBounds,if_neg (fun h=>hn h.symm)]
theorem stX {t:TypeId} {b off n:Nat} (i:Nat) {cs vs:List Value} {ty:TypeId} {x:Value} {K:Own→Prop} (hi:L[i]?=some (b,.cells cs.toArray ty (0,0))) (ht:(P.info? t).map (·.size)=some n) (hx:x.cells=vs.toArray) (hn:vs.length=n)
 (h1:∀ v∈vs,v.oneCell'=true) (hl:off+n≤cs.length) (h:K (L.set i (b,.cells (splice cs off vs).toArray ty (0,0)))):StoreX P t (.pointer (some ⟨b,off,none⟩)) x wb L (tag K) :=
 ⟨_,fun _ hw=>⟨_,storeAt_run ht hx hn h1 (hw.own b _ (List.mem_iff_getElem?.2 ⟨i,hi⟩)) hl,hw.set _ hi⟩,h⟩
/-! ### Calls -/
def Rets (w:World) (S:Value→World→Prop) (e:Ending) (w':World):Prop:=∃ v,e=.returned v∧Sy w [] w'∧S v w'
abbrev Is (v:Value):Value→World→Prop:=fun u _=>u=v
theorem cIs {f:FuncId} {args:Array Value} {v:Value} {K:Value→World→Own→Prop} (h:∀ w,Sy wb L w→Calls P f args w (Rets w (Is v))) (hk:K v wb L):CallX P f args wb L (tag K) (tag Kp):=fun w hw =>
 (h w hw).mono fun e w' ⟨u,he,hs,hu⟩=>by subst he; subst hu; exact ⟨wb,L,hw.frame hs,hk⟩
theorem callX_ex {f:FuncId} {args:Array Value} {S:Value→Prop} {K:Value→World→Own→Prop} (h:∀ w,Sy wb L w→Calls P f args w (Rets w fun v _=>S v)) (hk:∀ v,S v→K v wb L):CallX P f args wb L (tag K) (tag Kp):=fun w hw =>
 (h w hw).mono fun e w' ⟨u,he,hs,hu⟩=>by subst he; exact ⟨wb,L,hw.frame hs,hk u hu⟩
theorem callX_data {f:FuncId} {args:Array Value} {S:World→Value→World→Prop} {K:Value→World→Own→Prop} (h:∀ w,Sy wb L w→Calls P f args w (Rets w (S w)))
 (hk:∀ w v w',Sy wb L w→Sy w [] w'→Sy wb L w'→S w v w'→K v w' L):CallX P f args wb L (tag K) (tag Kp):=fun w hw =>
 (h w hw).mono fun e w' ⟨u,he,hs,hu⟩=>by subst he; exact ⟨w',L,(hw.frame hs).rebase,hk w u w' hw hs (hw.frame hs) hu⟩
theorem callX_mut {f:FuncId} {args:Array Value} {S:Value→Obj→Prop} {K:Value→World→Own→Prop} (i b:Nat) {o:Obj} (hi:L[i]?=some (b,o))
 (h:∀ w,Sy wb L w→Calls P f args w fun e w'=>∃ v o',e=.returned v∧Sy w [(b,o')] w'∧S v o') (hk:∀ v o',S v o'→K v wb (L.set i (b,o'))):CallX P f args wb L (tag K) (tag Kp):=fun w hw =>
 (h w hw).mono fun e w' ⟨u,o',he,hs,hu⟩=>by subst he; exact ⟨wb,_,hw.frame1 hi hs,hk u o' hu⟩
theorem qcallX_is {f:FuncId} {args:Array Value} (v:Value) {K:Value→Prop} (h:∀ w,Sy wb L w→Calls P f args w (Rets w (Is v))) (hk:K v):QCallX P f args wb L (tag K) :=
 ⟨v,fun w hw=>(h w hw).mono fun e w' ⟨u,he,hs,hu⟩=>by subst he; subst hu; exact ⟨rfl,hw.frame hs⟩,hk⟩
/-! ### Entering and returning -/
def ResL (P:Program) (wb:World) (L:Own) (e:Env):List ResultVar→(List Value→Prop)→Prop
 | [],K=>K []
 | .tmp t::rs,K=>PutX (e t) (tag fun v=>ResL P wb L e rs fun vs=>K (v::vs))
 | .cell t ty::rs,K=>LoadX P ty (e t) wb L (tag fun v=>ResL P wb L e rs fun vs=>K (v::vs))
def tup:List Value→Value
 | [v]=>v
 | vs=>.tuple vs.toArray
def retP (P:Program) (rs:List ResultVar) {R:Ending→World→Prop} (_:Tag R):Post
 | .ret,wb,e,ds,L | .normal,wb,e,ds,L=>ds=[]∧ResL P wb L e rs fun vs=>∀ w,Sy wb L w→R (.returned (tup vs)) w
 | .panic ch,wb,_,ds,L=>ds=[]∧∀ w,Sy wb L w→R (.panicked ch) w
 | _,_,_,_,_=>False
def resSem (tmps:Array Value):ResultVar→Sem Value
 | .tmp t=>pure (tmps.getD t undef)
 | .cell a t=>do loadVar t (← asAddr (tmps.getD a undef))
theorem results_eq (fn:Func) (tmps:Array Value):results fn tmps=(do let vs ← fn.results.mapM (resSem tmps); pure (if h:vs.size=1 then vs[0] else .tuple vs)):=by
 unfold results
 congr 1
theorem mapM_results {tmps:Array Value} {w:World} (hg:∀ t,tmps.getD t undef=e t) (hw:Sy wb L w):∀ (rs:List ResultVar) (K:List Value→Prop),ResL P wb L e rs K →
 ∃ vs,K vs∧(rs.mapM (resSem tmps)).run P w=.ok vs w:=by
 intro rs
 induction rs with
 | nil=>intro K h; exact ⟨[],h,by simp⟩
 | cons r rs ih =>
  intro K h
  cases r with
  | tmp t =>
   obtain ⟨vs,hk,hr⟩:=ih _ h
   refine ⟨_,hk,?_⟩
   simp only[List.mapM_cons,Sem.run_bind,resSem,Sem.run_pure,Result.andThen_ok,hr,hg]
  | cell t ty =>
   obtain ⟨v,hv,h⟩:=h
   obtain ⟨vs,hk,hr⟩:=ih _ h
   refine ⟨_,hk,?_⟩
   have hl:=hv w hw
   simp only[List.mapM_cons,Sem.run_bind,resSem,hg]
   have:(asAddr (e t)).run P w=(Instr.sureAddr (e t)).run P w:=by
    simp only[Instr.loadAt,Sem.run_bind] at hl
    cases hx:e t with
    | pointer a =>
     cases a with
     | some a=>simp[asAddr,Instr.sureAddr]
     | none=>rw[hx] at hl; simp[Instr.sureAddr] at hl
    | _=>rw[hx] at hl; simp[Instr.sureAddr] at hl
   simp only[Instr.loadAt,Sem.run_bind] at hl
   rw[this,hl]
   simp only[Result.andThen_ok,hr,Sem.run_pure]
theorem results_run {fn:Func} {a:Act} {w:World} {K:List Value→Prop} {n:Nat} (hr:Rep n a e ds) (hw:Sy wb L w) (h:ResL P wb L e fn.results.toList K):∃ vs,K vs∧(results fn a.tmps).run P w=.ok (tup vs) w:=by
 obtain ⟨vs,hk,hrun⟩:=mapM_results hr.get hw _ _ h
 refine ⟨vs,hk,?_⟩
 have hm:(fn.results.mapM (resSem a.tmps)).run P w=.ok vs.toArray w:=by
  rw[← Array.toArray_toList (xs:=fn.results),List.mapM_toArray]
  simp only[Sem.run_map,hrun,Result.andThen_ok]
 rw[results_eq,Sem.run_bind,hm]
 simp only[Result.andThen_ok,Sem.run_pure]
 congr 1
 match vs with
 | []=>simp[tup]
 | [v]=>simp[tup]
 | v::u::vs=>simp[tup]
def env0 (l:List Value):Env:=fun t=>l.getD t undef
theorem enter {f:FuncId} {fn:Func} {code:Code} {args:List Value} {w:World} {R:Ending→World→Prop} (hf:P.funcs[f]?=some fn) (hb:fn.body=some code) {rs:List ResultVar} (hrs:fn.results.toList=rs) (hok:okCode fn.ntmps code=true) (hsz:args.length≤fn.ntmps)
 (hL:Sy w L w) (h:V ⟨P,fn.ntmps,none⟩ code (retP P rs (tag R)) w (env0 args) [] L):Calls P f args.toArray w R:=by
 refine calls_of_wp hf hb ((wpIn_wide (n:=0)).1 (wpIn_mono (V_sound (c:=⟨P,fn.ntmps,none⟩) code _ w _ [] L hok h { tmps:=args.toArray++Array.replicate (fn.ntmps - args.toArray.size) undef,defers:=[] } w ⟨?_,fun t=>?_,rfl⟩ hL) ?_))
 ·simp; omega
 ·simp only[env0,Array.getD_eq_getD_getElem?,List.getD_eq_getElem?_getD]
  rw[Array.getElem?_append]
  simp only[List.size_toArray,List.getElem?_toArray]
  split
  ·rfl
  ·rename_i hlt
   rw[Array.getElem?_replicate]
   have:args[t]?=none:=by simp; omega
   rw[this]
   split<;>rfl
 ·rintro x a w' ⟨wb',e',ds',L',hr',hw',hq⟩
  cases x with
  | normal =>
   obtain ⟨hd,hq⟩:=hq
   obtain ⟨vs,hk,hrun⟩:=results_run hr' hw' (by rw[hrs]; exact hq)
   exact ⟨hr'.defers.trans hd,_,hrun,hk w' hw'⟩
  | ret =>
   obtain ⟨hd,hq⟩:=hq
   obtain ⟨vs,hk,hrun⟩:=results_run hr' hw' (by rw[hrs]; exact hq)
   exact ⟨hr'.defers.trans hd,_,hrun,hk w' hw'⟩
  | panic ch=>exact ⟨hr'.defers.trans hq.1,hq.2 w' hw'⟩
  | exit id=>exact hq.elim
  | goto l=>exact hq.elim
  | outgrown=>exact hq.elim
/-! ### Control -/
theorem condX_t {A B:Prop} (h:A):CondX (.bool true) (tag A) (tag B):=⟨true,rfl,fun _=>h,fun h=>(by cases h)⟩
theorem condX_f {A B:Prop} (h:B):CondX (.bool false) (tag A) (tag B):=⟨false,rfl,fun h=>(by cases h),fun _=>h⟩
theorem cdB {A B:Prop} {b:Bool} (h1:b=true→A) (h2:b=false→B):CondX (.bool b) (tag A) (tag B):=⟨b,rfl,h1,h2⟩
theorem cdD {A B:Prop} {p:Prop} [Decidable p] (h1:p→A) (h2:¬p→B):CondX (.bool (decide p)) (tag A) (tag B) :=
 ⟨_,rfl,fun h=>h1 (of_decide_eq_true h),fun h=>h2 (of_decide_eq_false h)⟩
theorem upd_self {e:Env} {d:Nat} {v:Value} (h:e d=v):upd e d v=e:=by
 funext t; unfold upd; split
 ·rename_i ht; rw[ht,h]
 ·rfl
theorem gT {e:Env} {d:Nat} {A B:Env→Prop} {p:Prop} [Decidable p] (h0:e d=.bool (decide p)) (h1:p→A (upd e d (.bool true))) (h2:¬p→B (upd e d (.bool false))) :
 GuardX (.bool (decide p)) e d true (tag A) (tag B) :=
 ⟨fun h=>(by simp at h; rw[← upd_self (e:=e) (d:=d) (v:=.bool true) (by rw[h0]; simp[h])]; exact h1 h),fun h=>(by simp at h; rw[← upd_self (e:=e) (d:=d) (v:=.bool false) (by rw[h0]; simp[h])]; exact h2 h)⟩
theorem gF {e:Env} {d:Nat} {A B:Env→Prop} {p:Prop} [Decidable p] (h0:e d=.bool (decide p)) (h1:¬p→A (upd e d (.bool false))) (h2:p→B (upd e d (.bool true))) :
 GuardX (.bool (decide p)) e d false (tag A) (tag B) :=
 ⟨fun h=>(by simp at h; rw[← upd_self (e:=e) (d:=d) (v:=.bool false) (by rw[h0]; simp[h])]; exact h1 h),fun h=>(by simp at h; rw[← upd_self (e:=e) (d:=d) (v:=.bool true) (by rw[h0]; simp[h])]; exact h2 h)⟩
theorem gbT {e:Env} {d:Nat} {A B:Env→Prop} {b:Bool} (h0:e d=.bool b) (h1:b=true→A (upd e d (.bool true))) (h2:b=false→B (upd e d (.bool false))):GuardX (.bool b) e d true (tag A) (tag B) :=
 ⟨fun h=>(by simp at h; rw[← upd_self (e:=e) (d:=d) (v:=.bool true) (by rw[h0,h])]; exact h1 h),fun h=>(by simp at h; rw[← upd_self (e:=e) (d:=d) (v:=.bool false) (by rw[h0,h])]; exact h2 h)⟩
theorem gbF {e:Env} {d:Nat} {A B:Env→Prop} {b:Bool} (h0:e d=.bool b) (h1:b=false→A (upd e d (.bool false))) (h2:b=true→B (upd e d (.bool true))):GuardX (.bool b) e d false (tag A) (tag B) :=
 ⟨fun h=>(by simp at h; rw[← upd_self (e:=e) (d:=d) (v:=.bool false) (by rw[h0,h])]; exact h1 h),fun h=>(by simp at h; rw[← upd_self (e:=e) (d:=d) (v:=.bool true) (by rw[h0,h])]; exact h2 h)⟩
theorem wpIn_loop_ghost {G:Type} {F:Fence} {n:Nat} {Q:Exit→Act→World→Prop} {a:Act} {w:World} {body:Code} (I:G→Act→World→Prop) (μ:G→Nat) (g:G) (h₀:I g a w)
 (round:∀ g a w,I g a w→body.wpIn F n P (Exit.then (fun a' w'=>∃ g',I g' a' w'∧μ g' < μ g) Q) a w):(Code.loop body).wpIn F n P Q a w:=by
 intro b k cs hro hb hr
 have key:∀ j g a w,μ g=j→I g a w →
  ∃ e a' w',Q e a' w'∧ArrivesIn (Machine.fenced P F) P (lone (b.atR a (.code body::.inLoop body::k)) cs w) b k cs e a' w':=by
  intro j
  induction j using Nat.strongRecOn with
  | _ j ih =>
   intro g a w hn hI
   obtain ⟨e,a₁,w₁,hq,harr⟩:=round g a w hI b (.inLoop body::k) cs hro hb hr
   cases e with
   | normal =>
    obtain ⟨g',hI₁,hlt⟩:=hq
    obtain ⟨e₂,a₂,w₂,hq₂,harr₂⟩:=ih (μ g') (hn ▸ hlt) g' a₁ w₁ rfl hI₁
    exact ⟨e₂,a₂,w₂,hq₂,.of_steps (StepsIn.trans harr (.one (fenced_calm hb hr rfl) stepR_inLoop)) harr₂⟩
   | exit id=>exact ⟨_,a₁,w₁,hq,.pass (x:=.inLoop body) rfl (fun _ _=>.inl (by simp)) harr⟩
   | goto l=>exact ⟨_,a₁,w₁,hq,.pass (x:=.inLoop body) rfl (fun _ _=>.inl (by simp)) harr⟩
   | ret=>exact ⟨_,a₁,w₁,hq,.pass (x:=.inLoop body) rfl (fun _ _=>.inl (by simp)) harr⟩
   | panic ch=>exact ⟨_,a₁,w₁,hq,.pass (x:=.inLoop body) rfl (fun _ _=>.inl (by simp)) harr⟩
   | outgrown=>exact ⟨_,a₁,w₁,hq,.pass (x:=.inLoop body) rfl (fun _ _=>.inl (by simp)) harr⟩
 obtain ⟨e,a',w',hq,harr⟩:=key _ g a w rfl h₀
 exact ⟨e,a',w',hq,.of_steps (.one (fenced_calm hb hr rfl) stepR_loop) harr⟩
theorem loopX {G:Type} {body:Code} {Q:Post} (hok:okCode c.n body=true) (I:G→World→Env→List Deferred→Own→Prop) (μ:G→Nat) (g:G) (h0:I g wb e ds L)
 (hr:∀ g wb e ds L,I g wb e ds L→V c body (thenP (tag fun wb' e' ds' L'=>∃ g',I g' wb' e' ds' L'∧μ g' < μ g) (tag Q)) wb e ds L):SemT c (tag (.loop body)) (tag Q) wb e ds L:=by
 intro a w hra hwa
 refine wpIn_loop_ghost (fun g a w=>∃ wb e ds L,Rep c.n a e ds∧Sy wb L w∧I g wb e ds L) μ g ⟨wb,e,ds,L,hra,hwa,h0⟩ ?_
 rintro g a w ⟨wb,e,ds,L,hra,hwa,hi⟩
 refine wpIn_mono (V_sound body _ wb e ds L hok (hr g wb e ds L hi) a w hra hwa) ?_
 rintro x a' w' ⟨wb',e',ds',L',hr',hw',hq⟩
 cases x with
 | normal=>obtain ⟨g',hi',hlt⟩:=hq; exact ⟨g',⟨wb',e',ds',L',hr',hw',hi'⟩,hlt⟩
 | _=>exact ⟨wb',e',ds',L',hr',hw',hq⟩
end Go.K
