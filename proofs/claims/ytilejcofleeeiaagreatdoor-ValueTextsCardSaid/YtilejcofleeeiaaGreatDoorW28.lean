/- YtilejcofleeeiaaGreatDoor: walks, part 28: schemas that are handed in, as they are read. -/
import Derived.Test.YtilejcofleeeiaaGreatDoorW84
namespace Go.Proofs.YtilejcofleeeiaaGreatDoor
open Go Go.K
open List renaming getElem?_eq_getElem → qH
set_option maxRecDepth 100000
set_option linter.unusedVariables false
set_option linter.unusedSimpArgs false
set_option maxHeartbeats 4000000
section
variable {H:Type} {enc:TypeId×Value→H} {w:World} {spare:Nat→Bool} {held:Bool}
theorem at_of_cells {a:Addr} {n:Nat} {cs:List Value} (h:w.cells? 0 a n=some cs) (hn:0 < n):a.spot=none∧At w a.block a.off cs:=by
 obtain ⟨_,hl,hc⟩:=World.cells?_some h
 have h0:=hc 0 hn
 have h00:(cs[0]?).isSome=true:=by rw[qH (by omega)]; rfl
 simp only[Addr.add,if_true] at h0
 unfold World.cell? at h0
 cases hb:w.heap[a.block]? with
 | none=>rw[hb] at h0; simp only at h0; rw[← h0] at h00; cases h00
 | some o =>
  cases o with
  | map _ _=>rw[hb] at h0; simp only at h0; rw[← h0] at h00; cases h00
  | cells c ty fr =>
   rw[hb] at h0
   simp only at h0
   have hs:a.spot=none:=by
    cases hs:a.spot with
    | none=>rfl
    | some s=>rw[hs] at h0; simp at h0; rw[h0] at h00; cases h00
   refine ⟨hs,c,ty,fr,hb,?_⟩
   apply List.ext_getElem?
   intro i
   rw[List.getElem?_take]
   split
   ·rename_i hi
    rw[← hc i (by omega),List.getElem?_drop,Array.getElem?_toList]
    unfold World.cell? Addr.add
    by_cases hi0:i=0
    ·subst hi0; simp[hb,hs]
    ·simp[hb,hi0]
   ·rw[List.getElem?_eq_none (by omega)]
  | _=>rw[hb] at h0; simp only at h0; rw[← h0] at h00; cases h00
theorem slice_at {t e:TypeId} {sz n:Nat} {cs:List Value} {x:DataW H×List MemPlace} (ht:Tryz.prog.underlying t=some (.slice e)) (hz:Tryz.prog.cellsOf e=sz) (hz0:0 < sz) (h:DataW.trod enc Tryz.prog w 0 spare held n t cs=some x) :
 ∃ a len cap,cs=[.slice a len cap]∧len≤cap∧cap≤9223372036854775807∧(len=0∨∃ b off n',a=some ⟨b,off,none⟩∧b < w.heap.size∧n=n'+1∧∀ i,i < len→∃ cs' y,At w b (off+i * sz) cs'∧cs'.length=sz∧DataW.trod enc Tryz.prog w 0 spare held n' e cs'=some y):=by
 rcases DataW.trod_slice ht h with ⟨rfl,_⟩|⟨a,len,cap,elems,rest,n',rfl,rfl,_,_,hl,hc,hel,hall,_⟩
 ·exact ⟨none,0,0,rfl,Nat.le_refl _,by omega,.inl rfl⟩
 ·refine ⟨some a,len,cap,rfl,hl,by simp only[maxLen] at hc; omega,?_⟩
  rw[hz] at hall
  rcases Nat.eq_zero_or_pos len with h0|h0
  ·exact .inl h0
  have get:∀ i,i < len→∃ cs' y,w.cells? 0 (a.add (i * sz)) sz=some cs'∧DataW.trod enc Tryz.prog w 0 spare held n' e cs'=some y:=fun i hi=>by
   have h1:=hall i hi
   rw[qH (by omega)] at h1
   obtain ⟨cs',h2,h3⟩:=Option.bind_eq_some_iff.1 h1
   exact ⟨cs',_,h2,h3⟩
  obtain ⟨cs0,y0,g1,_⟩:=get 0 h0
  rw[Nat.zero_mul] at g1
  obtain ⟨hs,hat⟩:=at_of_cells g1 hz0
  obtain ⟨b,off,sp⟩:=a
  simp only[Addr.add,if_true] at hs hat
  subst hs
  refine .inr ⟨b,off,n',rfl,hat.lt,rfl,fun i hi=>?_⟩
  obtain ⟨cs',y,g1,g2⟩:=get i hi
  have g3:=(at_of_cells g1 hz0).2
  have g4:(Addr.add ⟨b,off,none⟩ (i * sz))=⟨b,off+i * sz,none⟩:=by unfold Addr.add; split<;>simp_all
  rw[g4] at g3
  exact ⟨cs',y,g3,(World.cells?_some g1).2.1,g2⟩
theorem str_of {n:Nat} {v:Value} {x:DataW H×List MemPlace} (h:DataW.trod enc Tryz.prog w 0 spare held n 9 [v]=some x):∃ l,v=str l∧l.length≤9223372036854775807:=by
 obtain ⟨s,e,_,hs⟩:=DataW.trod_string Tryz.underlying9 h
 simp only[List.cons.injEq,and_true] at e
 subst e
 refine ⟨s.data.toList,?_,?_⟩
 ·simp[str]
 ·simp only[maxLen] at hs; simpa using hs
theorem int_of {n:Nat} {v:Value} {x:DataW H×List MemPlace} (h:DataW.trod enc Tryz.prog w 0 spare held n 3 [v]=some x):∃ k,v=i64 k:=by
 obtain ⟨k,e,_,_⟩:=DataW.trod_int Tryz.underlying3 h
 simp only[List.cons.injEq,and_true] at e
 exact ⟨k,e⟩
theorem bool_of {n:Nat} {v:Value} {x:DataW H×List MemPlace} (h:DataW.trod enc Tryz.prog w 0 spare held n 4 [v]=some x):∃ k,v=.bool k:=by
 obtain ⟨k,e,_⟩:=DataW.trod_bool Tryz.underlying4 h
 simp only[List.cons.injEq,and_true] at e
 exact ⟨k,e⟩
theorem cells_is:Tryz.prog.cellsOf 9=1∧Tryz.prog.cellsOf 3=1∧Tryz.prog.cellsOf 4=1∧Tryz.prog.cellsOf 22=1∧Tryz.prog.cellsOf 112=1∧Tryz.prog.cellsOf 24=5∧Tryz.prog.cellsOf 26=7∧Tryz.prog.cellsOf 139=2∧Tryz.prog.cellsOf 114=2:=by
 refine ⟨?_,?_,?_,?_,?_,?_,?_,?_,?_⟩<;>kernel_rfl
theorem field_of {n:Nat} {cs:List Value} {x:DataW H×List MemPlace} (h:DataW.trod enc Tryz.prog w 0 spare held n 26 cs=some x) :
 ∃ nm nl k wd id ix v n' y,cs=[str nm,.bool nl,i64 k,i64 wd,i64 id,i64 ix,v]∧nm.length≤9223372036854775807∧n=n'+2∧DataW.trod enc Tryz.prog w 0 spare held n' 22 [v]=some y:=by
 obtain ⟨c1,c2,c3,c4,_,c5,c6,_,_⟩:=cells_is
 obtain ⟨xs,n1,rfl,_,hl,hxl,hall⟩:=DataW.trod_struct Tryz.underlying26 h
 rw[c6] at hl
 obtain ⟨v0,v1,v2,v3,v4,v5,v6,rfl⟩:∃ v0 v1 v2 v3 v4 v5 v6,cs=[v0,v1,v2,v3,v4,v5,v6]:=by
  match cs,hl with
  | [v0,v1,v2,v3,v4,v5,v6],_=>exact ⟨v0,v1,v2,v3,v4,v5,v6,rfl⟩
 obtain ⟨x0,x1,x2,rfl⟩:∃ x0 x1 x2,xs=[x0,x1,x2]:=by
  match xs,hxl with
  | [x0,x1,x2],_=>exact ⟨x0,x1,x2,rfl⟩
 have f0:DataW.trod enc Tryz.prog w 0 spare held n1 9 (List.take (Tryz.prog.cellsOf 9) (List.drop 0 [v0,v1,v2,v3,v4,v5,v6]))=some x0:=hall 0 _ rfl
 have f1:DataW.trod enc Tryz.prog w 0 spare held n1 4 (List.take (Tryz.prog.cellsOf 4) (List.drop 1 [v0,v1,v2,v3,v4,v5,v6]))=some x1:=hall 1 _ rfl
 have f2:DataW.trod enc Tryz.prog w 0 spare held n1 24 (List.take (Tryz.prog.cellsOf 24) (List.drop 2 [v0,v1,v2,v3,v4,v5,v6]))=some x2:=hall 2 _ rfl
 simp only[c1,c3,c5,List.drop_zero,List.drop_succ_cons,List.take_succ_cons,List.take_zero] at f0 f1 f2
 obtain ⟨ys,n2,rfl,_,hl2,hyl,hall2⟩:=DataW.trod_struct Tryz.underlying24 f2
 obtain ⟨y0,y1,y2,y3,y4,rfl⟩:∃ y0 y1 y2 y3 y4,ys=[y0,y1,y2,y3,y4]:=by
  match ys,hyl with
  | [y0,y1,y2,y3,y4],_=>exact ⟨y0,y1,y2,y3,y4,rfl⟩
 have g0:DataW.trod enc Tryz.prog w 0 spare held n2 3 (List.take (Tryz.prog.cellsOf 3) (List.drop 0 [v2,v3,v4,v5,v6]))=some y0:=hall2 0 _ rfl
 have g1:DataW.trod enc Tryz.prog w 0 spare held n2 3 (List.take (Tryz.prog.cellsOf 3) (List.drop 1 [v2,v3,v4,v5,v6]))=some y1:=hall2 1 _ rfl
 have g2:DataW.trod enc Tryz.prog w 0 spare held n2 3 (List.take (Tryz.prog.cellsOf 3) (List.drop 2 [v2,v3,v4,v5,v6]))=some y2:=hall2 2 _ rfl
 have g3:DataW.trod enc Tryz.prog w 0 spare held n2 3 (List.take (Tryz.prog.cellsOf 3) (List.drop 3 [v2,v3,v4,v5,v6]))=some y3:=hall2 3 _ rfl
 have g4:DataW.trod enc Tryz.prog w 0 spare held n2 22 (List.take (Tryz.prog.cellsOf 22) (List.drop 4 [v2,v3,v4,v5,v6]))=some y4:=hall2 4 _ rfl
 simp only[c2,c4,List.drop_zero,List.drop_succ_cons,List.take_succ_cons,List.take_zero] at g0 g1 g2 g3 g4
 obtain ⟨nm,rfl,hnm⟩:=str_of f0
 obtain ⟨nl,rfl⟩:=bool_of f1
 obtain ⟨k,rfl⟩:=int_of g0
 obtain ⟨wd,rfl⟩:=int_of g1
 obtain ⟨id,rfl⟩:=int_of g2
 obtain ⟨ix,rfl⟩:=int_of g3
 exact ⟨nm,nl,k,wd,id,ix,v6,n2,y4,rfl,hnm,rfl,g4⟩
theorem Rd.of_get {lo b:Nat} (hb:b < lo):∀ (n off:Nat),(∀ i,i < n→∃ f a c,At w b (off+i * 7) (Fld.cells f a c)∧f.sub.length≤c∧f.nm.length≤9223372036854775807∧c≤9223372036854775807∧Rd w lo a f.sub)→∃ l,l.length=n∧Rd w lo (some ⟨b,off,none⟩) l
 | 0,off,_=>⟨[],rfl,.nil _⟩
 | n+1,off,h=>by
  obtain ⟨f,a,c,h1,h2,h3,h4,h5⟩:=h 0 (by omega)
  obtain ⟨l,hl,hr⟩:=Rd.of_get hb n (off+7) (fun i hi=>by
   obtain ⟨f,a,c,h1,h2⟩:=h (i+1) (by omega)
   exact ⟨f,a,c,by rw[show off+7+i * 7=off+(i+1) * 7 by omega]; exact h1,h2⟩)
  exact ⟨f::l,by simp[hl],.cons hb h2 h3 h4 (un h1) h5 hr⟩
theorem fields_of:∀ (n:Nat) {cs:List Value} {x:DataW H×List MemPlace},DataW.trod enc Tryz.prog w 0 spare held n 22 cs=some x →
 ∃ a l c,cs=[.slice a (List.length l) c]∧l.length≤c∧c≤9223372036854775807∧Rd w w.heap.size a l:=by
 intro n
 induction n using Nat.strongRecOn with
 | ind n ih =>
  intro cs x h
  obtain ⟨a,len,cap,rfl,hl,hc,rfl|⟨b,off,n',rfl,hb,rfl,hall⟩⟩:=slice_at Tryz.underlying22 cells_is.2.2.2.2.2.2.1 (by omega) h
  ·exact ⟨a,[],cap,rfl,hl,hc,.nil _⟩
  ·obtain ⟨l,hll,hr⟩:=Rd.of_get (w:=w) hb len off (fun i hi=>by
    obtain ⟨cs',y,h1,_,h3⟩:=hall i hi
    obtain ⟨nm,nl,k,wd,id,ix,v,n2,y2,rfl,h4,rfl,h5⟩:=field_of h3
    obtain ⟨a',l',c',h6,h7,h8,h9⟩:=ih n2 (by omega) h5
    simp only[List.cons.injEq,and_true] at h6
    subst h6
    exact ⟨.mk nm nl k wd id ix l',a',c',h1,h7,h4,h8,h9⟩)
   subst hll
   exact ⟨_,l,cap,rfl,hl,hc,hr⟩
end
end Go.Proofs.YtilejcofleeeiaaGreatDoor
