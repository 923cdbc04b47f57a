/- YtdmdgkpjjpijdaaGreatDoor: KindKeeps answers true: the row and its tied card. -/
import Derived.Test.YtdmdgkpjjpijdaaGreatDoorW15
import Derived.Test.YtdmdgkpjjpijdaaGreatDoorTie
import Derived.Test.YtdmdgkpjjpijdaaGreatDoorCards
import Derived.ProofKit
import Derived.WalkKit
import Derived.LaidMore
import Derived.OpenShut
import Derived.SevenTiedAt
import Derived.Test.YtdmdgkpjjpijdaaGreatDoorW206
import Derived.Carry
import Derived.Lay
namespace Go.Proofs.YtdmdgkpjjpijdaaGreatDoor
open Go Go.K Go.ChangeShapes Go.WideShapes Go.ChangeAt Go.RowKit
open List renaming getElem?_eq_getElem → qH
set_option maxRecDepth 100000
set_option linter.unusedVariables false
set_option linter.unusedSimpArgs false
theorem own:ownKnob Tryz.prog.godebug=none:=by kernel_rfl
theorem kept_of_sy {w w':World} (h:Sy w [] w') (may:MemPlace→Prop):w.keptBut w' may:=by
 refine ⟨h.os,h.output,fun i hi=>?_⟩
 rw[h.rest i hi (by simp)]
 cases w.heap[i]? with
 | none=>rfl
 | some o=>cases o<;>simp
theorem post_of_sy {H:Type} {enc:TypeId×Value→H} {P:Program} {f:Func} {s:ChangeSpec} {W W':World} {args:Array Value} {v:Value} {ds gs:List (DataW H)} {before pr pa pv:List MemPlace}
 (hW:DataW.Whole enc P f.params.toList s.vars false W args.toList ds gs before) (hsy:Sy W [] W')
 (hres:DataW.TrodAll enc P W' W.heap.size (fun _=>false) false f.resultTypes.toList (v.resultList f.resultTypes.size) (s.fn H (ds++gs)).results pr)
 (hargs:DataW.TrodAll enc P W' 0 (fun b=>decide (b < W.heap.size)) true f.params.toList args.toList (s.fn H (ds++gs)).args pa)
 (hvars:DataW.TrodVars enc P W' (fun b=>decide (b < W.heap.size)) s.vars (s.fn H (ds++gs)).vars pv):s.post enc P f false true false false W args v W' :=
 ⟨ds,gs,before,pr,pa,pv,hW,hres,hargs,hvars,kept_of_sy hsy _,fun h=>by cases h⟩
theorem says_of_laid {W:World} {l:List (String×DataW Unit)} (h:laidMetH Tryz.prog l W) (hp:(l.all fun x=>x.2.handleName?.isNone)=true) (hm:("colonnade/kind.says",Rows.laid_colonnade_kind_says)∈l):SaysAt W:=by
 rw[MakeChecks.laidMetH_plain _ _ _ hp] at h
 exact says_of_reads (Lib.laidMet.reads h hm)
open Go Go.K
set_option maxHeartbeats 4000000
section
variable {H:Type} {enc:TypeId×Value→H} {w:World} {spare:Nat→Bool} {held:Bool}
theorem at_of_cells {a:Addr} {n:Nat} {cs:List Value} (h:w.cells? 0 a n=some cs) (hn:0 < n):a.spot=none∧At w a.block a.off cs:=by
 obtain ⟨_,hl,hc⟩:=World.cells?_some h
 have h0:=hc 0 hn
 have h00:(cs[0]?).isSome=true:=by rw[qH (by omega)]; rfl
 simp only[Addr.add,if_true] at h0
 unfold World.cell? at h0
 cases hb:w.heap[a.block]? with
 | none=>rw[hb] at h0; simp only at h0; rw[← h0] at h00; cases h00
 | some o =>
  cases o with
  | map _ _=>rw[hb] at h0; simp only at h0; rw[← h0] at h00; cases h00
  | cells c ty fr =>
   rw[hb] at h0
   simp only at h0
   have hs:a.spot=none:=by
    cases hs:a.spot with
    | none=>rfl
    | some s=>rw[hs] at h0; simp at h0; rw[h0] at h00; cases h00
   refine ⟨hs,c,ty,fr,hb,?_⟩
   apply List.ext_getElem?
   intro i
   rw[List.getElem?_take]
   split
   ·rename_i hi
    rw[← hc i (by omega),List.getElem?_drop,Array.getElem?_toList]
    unfold World.cell? Addr.add
    by_cases hi0:i=0
    ·subst hi0; simp[hb,hs]
    ·simp[hb,hi0]
   ·rw[List.getElem?_eq_none (by omega)]
  | _=>rw[hb] at h0; simp only at h0; rw[← h0] at h00; cases h00
theorem slice_at {t e:TypeId} {sz n:Nat} {cs:List Value} {x:DataW H×List MemPlace} (ht:Tryz.prog.underlying t=some (.slice e)) (hz:Tryz.prog.cellsOf e=sz) (hz0:0 < sz) (h:DataW.trod enc Tryz.prog w 0 spare held n t cs=some x) :
 ∃ a len cap,cs=[.slice a len cap]∧len≤cap∧cap≤9223372036854775807∧(len=0∨∃ b off n',a=some ⟨b,off,none⟩∧b < w.heap.size∧n=n'+1∧∀ i,i < len→∃ cs' y,At w b (off+i * sz) cs'∧cs'.length=sz∧DataW.trod enc Tryz.prog w 0 spare held n' e cs'=some y):=by
 rcases DataW.trod_slice ht h with ⟨rfl,_⟩|⟨a,len,cap,elems,rest,n',rfl,rfl,_,_,hl,hc,hel,hall,_⟩
 ·exact ⟨none,0,0,rfl,Nat.le_refl _,by omega,.inl rfl⟩
 ·refine ⟨some a,len,cap,rfl,hl,by simp only[maxLen] at hc; omega,?_⟩
  rw[hz] at hall
  rcases Nat.eq_zero_or_pos len with h0|h0
  ·exact .inl h0
  have get:∀ i,i < len→∃ cs' y,w.cells? 0 (a.add (i * sz)) sz=some cs'∧DataW.trod enc Tryz.prog w 0 spare held n' e cs'=some y:=fun i hi=>by
   have h1:=hall i hi
   rw[qH (by omega)] at h1
   obtain ⟨cs',h2,h3⟩:=Option.bind_eq_some_iff.1 h1
   exact ⟨cs',_,h2,h3⟩
  obtain ⟨cs0,y0,g1,_⟩:=get 0 h0
  rw[Nat.zero_mul] at g1
  obtain ⟨hs,hat⟩:=at_of_cells g1 hz0
  obtain ⟨b,off,sp⟩:=a
  simp only[Addr.add,if_true] at hs hat
  subst hs
  refine .inr ⟨b,off,n',rfl,hat.lt,rfl,fun i hi=>?_⟩
  obtain ⟨cs',y,g1,g2⟩:=get i hi
  have g3:=(at_of_cells g1 hz0).2
  have g4:(Addr.add ⟨b,off,none⟩ (i * sz))=⟨b,off+i * sz,none⟩:=by unfold Addr.add; split<;>simp_all
  rw[g4] at g3
  exact ⟨cs',y,g3,(World.cells?_some g1).2.1,g2⟩
theorem str_of {n:Nat} {v:Value} {x:DataW H×List MemPlace} (h:DataW.trod enc Tryz.prog w 0 spare held n 9 [v]=some x):∃ l,v=str l∧l.length≤9223372036854775807:=by
 obtain ⟨s,e,_,hs⟩:=DataW.trod_string Tryz.underlying9 h
 simp only[List.cons.injEq,and_true] at e
 subst e
 refine ⟨s.data.toList,?_,?_⟩
 ·simp[str]
 ·simp only[maxLen] at hs; simpa using hs
theorem int_of {n:Nat} {v:Value} {x:DataW H×List MemPlace} (h:DataW.trod enc Tryz.prog w 0 spare held n 3 [v]=some x):∃ k,v=i64 k:=by
 obtain ⟨k,e,_,_⟩:=DataW.trod_int Tryz.underlying3 h
 simp only[List.cons.injEq,and_true] at e
 exact ⟨k,e⟩
theorem bool_of {n:Nat} {v:Value} {x:DataW H×List MemPlace} (h:DataW.trod enc Tryz.prog w 0 spare held n 4 [v]=some x):∃ k,v=.bool k:=by
 obtain ⟨k,e,_⟩:=DataW.trod_bool Tryz.underlying4 h
 simp only[List.cons.injEq,and_true] at e
 exact ⟨k,e⟩
theorem cells_is:Tryz.prog.cellsOf 9=1∧Tryz.prog.cellsOf 3=1∧Tryz.prog.cellsOf 4=1∧Tryz.prog.cellsOf 24=1∧Tryz.prog.cellsOf 25=1∧Tryz.prog.cellsOf 35=5∧Tryz.prog.cellsOf 37=7∧Tryz.prog.cellsOf 90=2∧Tryz.prog.cellsOf 27=2:=by
 refine ⟨?_,?_,?_,?_,?_,?_,?_,?_,?_⟩<;>kernel_rfl
theorem field_of {n:Nat} {cs:List Value} {x:DataW H×List MemPlace} (h:DataW.trod enc Tryz.prog w 0 spare held n 37 cs=some x) :
 ∃ nm nl k wd id ix v n' y,cs=[str nm,.bool nl,i64 k,i64 wd,i64 id,i64 ix,v]∧nm.length≤9223372036854775807∧n=n'+2∧DataW.trod enc Tryz.prog w 0 spare held n' 24 [v]=some y:=by
 obtain ⟨c1,c2,c3,c4,_,c5,c6,_,_⟩:=cells_is
 obtain ⟨xs,n1,rfl,_,hl,hxl,hall⟩:=DataW.trod_struct Tryz.underlying37 h
 rw[c6] at hl
 obtain ⟨v0,v1,v2,v3,v4,v5,v6,rfl⟩:∃ v0 v1 v2 v3 v4 v5 v6,cs=[v0,v1,v2,v3,v4,v5,v6]:=by
  match cs,hl with
  | [v0,v1,v2,v3,v4,v5,v6],_=>exact ⟨v0,v1,v2,v3,v4,v5,v6,rfl⟩
 obtain ⟨x0,x1,x2,rfl⟩:∃ x0 x1 x2,xs=[x0,x1,x2]:=by
  match xs,hxl with
  | [x0,x1,x2],_=>exact ⟨x0,x1,x2,rfl⟩
 have f0:DataW.trod enc Tryz.prog w 0 spare held n1 9 (List.take (Tryz.prog.cellsOf 9) (List.drop 0 [v0,v1,v2,v3,v4,v5,v6]))=some x0:=hall 0 _ rfl
 have f1:DataW.trod enc Tryz.prog w 0 spare held n1 4 (List.take (Tryz.prog.cellsOf 4) (List.drop 1 [v0,v1,v2,v3,v4,v5,v6]))=some x1:=hall 1 _ rfl
 have f2:DataW.trod enc Tryz.prog w 0 spare held n1 35 (List.take (Tryz.prog.cellsOf 35) (List.drop 2 [v0,v1,v2,v3,v4,v5,v6]))=some x2:=hall 2 _ rfl
 simp only[c1,c3,c5,List.drop_zero,List.drop_succ_cons,List.take_succ_cons,List.take_zero] at f0 f1 f2
 obtain ⟨ys,n2,rfl,_,hl2,hyl,hall2⟩:=DataW.trod_struct Tryz.underlying35 f2
 obtain ⟨y0,y1,y2,y3,y4,rfl⟩:∃ y0 y1 y2 y3 y4,ys=[y0,y1,y2,y3,y4]:=by
  match ys,hyl with
  | [y0,y1,y2,y3,y4],_=>exact ⟨y0,y1,y2,y3,y4,rfl⟩
 have g0:DataW.trod enc Tryz.prog w 0 spare held n2 3 (List.take (Tryz.prog.cellsOf 3) (List.drop 0 [v2,v3,v4,v5,v6]))=some y0:=hall2 0 _ rfl
 have g1:DataW.trod enc Tryz.prog w 0 spare held n2 3 (List.take (Tryz.prog.cellsOf 3) (List.drop 1 [v2,v3,v4,v5,v6]))=some y1:=hall2 1 _ rfl
 have g2:DataW.trod enc Tryz.prog w 0 spare held n2 3 (List.take (Tryz.prog.cellsOf 3) (List.drop 2 [v2,v3,v4,v5,v6]))=some y2:=hall2 2 _ rfl
 have g3:DataW.trod enc Tryz.prog w 0 spare held n2 3 (List.take (Tryz.prog.cellsOf 3) (List.drop 3 [v2,v3,v4,v5,v6]))=some y3:=hall2 3 _ rfl
 have g4:DataW.trod enc Tryz.prog w 0 spare held n2 24 (List.take (Tryz.prog.cellsOf 24) (List.drop 4 [v2,v3,v4,v5,v6]))=some y4:=hall2 4 _ rfl
 simp only[c2,c4,List.drop_zero,List.drop_succ_cons,List.take_succ_cons,List.take_zero] at g0 g1 g2 g3 g4
 obtain ⟨nm,rfl,hnm⟩:=str_of f0
 obtain ⟨nl,rfl⟩:=bool_of f1
 obtain ⟨k,rfl⟩:=int_of g0
 obtain ⟨wd,rfl⟩:=int_of g1
 obtain ⟨id,rfl⟩:=int_of g2
 obtain ⟨ix,rfl⟩:=int_of g3
 exact ⟨nm,nl,k,wd,id,ix,v6,n2,y4,rfl,hnm,rfl,g4⟩
theorem Rd.of_get {lo b:Nat} (hb:b < lo):∀ (n off:Nat),(∀ i,i < n→∃ f a c,At w b (off+i * 7) (Fld.cells f a c)∧f.sub.length≤c∧f.nm.length≤9223372036854775807∧c≤9223372036854775807∧Rd w lo a f.sub)→∃ l,l.length=n∧Rd w lo (some ⟨b,off,none⟩) l
 | 0,off,_=>⟨[],rfl,.nil _⟩
 | n+1,off,h=>by
  obtain ⟨f,a,c,h1,h2,h3,h4,h5⟩:=h 0 (by omega)
  obtain ⟨l,hl,hr⟩:=Rd.of_get hb n (off+7) (fun i hi=>by
   obtain ⟨f,a,c,h1,h2⟩:=h (i+1) (by omega)
   exact ⟨f,a,c,by rw[show off+7+i * 7=off+(i+1) * 7 by omega]; exact h1,h2⟩)
  exact ⟨f::l,by simp[hl],.cons hb h2 h3 h4 (un h1) h5 hr⟩
theorem fields_of:∀ (n:Nat) {cs:List Value} {x:DataW H×List MemPlace},DataW.trod enc Tryz.prog w 0 spare held n 24 cs=some x →
 ∃ a l c,cs=[.slice a (List.length l) c]∧l.length≤c∧c≤9223372036854775807∧Rd w w.heap.size a l:=by
 intro n
 induction n using Nat.strongRecOn with
 | ind n ih =>
  intro cs x h
  obtain ⟨a,len,cap,rfl,hl,hc,rfl|⟨b,off,n',rfl,hb,rfl,hall⟩⟩:=slice_at Tryz.underlying24 cells_is.2.2.2.2.2.2.1 (by omega) h
  ·exact ⟨a,[],cap,rfl,hl,hc,.nil _⟩
  ·obtain ⟨l,hll,hr⟩:=Rd.of_get (w:=w) hb len off (fun i hi=>by
    obtain ⟨cs',y,h1,_,h3⟩:=hall i hi
    obtain ⟨nm,nl,k,wd,id,ix,v,n2,y2,rfl,h4,rfl,h5⟩:=field_of h3
    obtain ⟨a',l',c',h6,h7,h8,h9⟩:=ih n2 (by omega) h5
    simp only[List.cons.injEq,and_true] at h6
    subst h6
    exact ⟨.mk nm nl k wd id ix l',a',c',h1,h7,h4,h8,h9⟩)
   subst hll
   exact ⟨_,l,cap,rfl,hl,hc,hr⟩
theorem exists_list {α:Type} (n:Nat) {p:Nat→α→Prop} (h:∀ i,i < n→∃ x,p i x):∃ l:List α,l.length=n∧∀ i x,l[i]?=some x→p i x:=by
 induction n with
 | zero=>exact ⟨[],rfl,fun i x hx=>by simp at hx⟩
 | succ n ih =>
  obtain ⟨l,hl,hp⟩:=ih (fun i hi=>h i (by omega))
  obtain ⟨x,hx⟩:=h n (by omega)
  refine ⟨l++[x],by simp[hl],fun i y hy=>?_⟩
  rcases Nat.lt_or_ge i l.length with h1|h1
  ·rw[List.getElem?_append_left h1] at hy; exact hp i y hy
  ·rw[List.getElem?_append_right h1] at hy
   obtain ⟨h2,h3⟩:=List.getElem?_eq_some_iff.1 hy
   simp only[List.length_singleton] at h2
   obtain rfl:i=n:=by omega
   simp only[List.getElem_singleton] at h3
   subst h3
   exact hx
theorem notes_of {n:Nat} {cs:List Value} {x:DataW H×List MemPlace} (h:DataW.trod enc Tryz.prog w 0 spare held n 25 cs=some x) :
 ∃ a nt c,cs=[.slice a (List.length nt) c]∧nt.length≤c∧c≤9223372036854775807∧RdN w w.heap.size a nt:=by
 obtain ⟨a,len,cap,rfl,hl,hc,rfl|⟨b,off,n',rfl,hb,rfl,hall⟩⟩:=slice_at Tryz.underlying25 cells_is.2.2.2.2.2.2.2.1 (by omega) h
 ·exact ⟨a,[],cap,rfl,hl,hc,.inl rfl⟩
 ·obtain ⟨nt,hnt,hp⟩:=exists_list (α:=NoteT) len (p:=fun i n=>n.1.length≤9223372036854775807∧n.2.length≤9223372036854775807∧At w b (off+i * 2) [str n.1,str n.2]) (fun i hi=>by
   obtain ⟨cs',y,h1,h2,h3⟩:=hall i hi
   obtain ⟨xs,n1,rfl,_,_,hxl,hall2⟩:=DataW.trod_struct Tryz.underlying90 h3
   obtain ⟨v0,v1,rfl⟩:∃ v0 v1,cs'=[v0,v1]:=by
    match cs',h2 with
    | [v0,v1],_=>exact ⟨v0,v1,rfl⟩
   obtain ⟨x0,x1,rfl⟩:∃ x0 x1,xs=[x0,x1]:=by
    match xs,hxl with
    | [x0,x1],_=>exact ⟨x0,x1,rfl⟩
   have f0:DataW.trod enc Tryz.prog w 0 spare held n1 9 (List.take (Tryz.prog.cellsOf 9) (List.drop 0 [v0,v1]))=some x0:=hall2 0 _ rfl
   have f1:DataW.trod enc Tryz.prog w 0 spare held n1 9 (List.take (Tryz.prog.cellsOf 9) (List.drop 1 [v0,v1]))=some x1:=hall2 1 _ rfl
   simp only[cells_is.1,List.drop_zero,List.drop_succ_cons,List.take_succ_cons,List.take_zero] at f0 f1
   obtain ⟨k,rfl,hk⟩:=str_of f0
   obtain ⟨v,rfl,hv⟩:=str_of f1
   exact ⟨(k,v),hk,hv,h1⟩)
  subst hnt
  exact ⟨_,nt,cap,rfl,hl,hc,.inr ⟨b,off,rfl,hb,hp⟩⟩
theorem schema_of {n:Nat} {cs:List Value} {x:DataW H×List MemPlace} (h:DataW.trod enc Tryz.prog w 0 spare held n 27 cs=some x) :
 ∃ (s:List Fld×List NoteT) (fa:Option Addr) (fc:Nat) (na:Option Addr) (nc:Nat),cs=[.slice fa s.1.length fc,.slice na s.2.length nc]∧SchAt w w.heap.size fa s.1 fc na s.2 nc:=by
 obtain ⟨xs,n1,rfl,_,h2,hxl,hall2⟩:=DataW.trod_struct Tryz.underlying27 h
 rw[cells_is.2.2.2.2.2.2.2.2] at h2
 obtain ⟨v0,v1,rfl⟩:∃ v0 v1,cs=[v0,v1]:=by
  match cs,h2 with
  | [v0,v1],_=>exact ⟨v0,v1,rfl⟩
 obtain ⟨x0,x1,rfl⟩:∃ x0 x1,xs=[x0,x1]:=by
  match xs,hxl with
  | [x0,x1],_=>exact ⟨x0,x1,rfl⟩
 have f0:DataW.trod enc Tryz.prog w 0 spare held n1 24 (List.take (Tryz.prog.cellsOf 24) (List.drop 0 [v0,v1]))=some x0:=hall2 0 _ rfl
 have f1:DataW.trod enc Tryz.prog w 0 spare held n1 25 (List.take (Tryz.prog.cellsOf 25) (List.drop 1 [v0,v1]))=some x1:=hall2 1 _ rfl
 simp only[cells_is.2.2.2.1,cells_is.2.2.2.2.1,List.drop_zero,List.drop_succ_cons,List.take_succ_cons,List.take_zero] at f0 f1
 obtain ⟨fa,l,fc,e1,h3,h4,h5⟩:=fields_of _ f0
 obtain ⟨na,nt,nc,e2,h6,h7,h8⟩:=notes_of f1
 simp only[List.cons.injEq,and_true] at e1 e2
 subst e1; subst e2
 exact ⟨(l,nt),fa,fc,na,nc,rfl,h5,h3,h4,h8,h6,h7⟩
end
open Go Go.K Go.ChangeShapes Go.WideShapes Go.ChangeAt Go.RowKit
set_option maxHeartbeats 2000000
theorem pow_data:(Rows.laid_internal_strconv_uint64pow10:DataW Unit)=Lib.tabData .u64 Lib.pow10Tab:=by kernel_rfl
theorem err_cells {H:Type} {enc:TypeId×Value→H} {P:Program} {w:World} {base:Nat} {sp:Nat→Bool} {held:Bool} {fuel:Nat} {t:TypeId} {ms:Array (String×TypeId)} {cs:List Value} {x:DataW H×List MemPlace} (hu:P.underlying t=some (.interface ms))
 (h:DataW.trod enc P w base sp held fuel t cs=some x):∃ v,cs=[v]∧(v=.nilIface∨∃ te pe,v=.iface te pe):=by
 cases fuel with
 | zero=>simp[DataW.trod] at h
 | succ fuel =>
  unfold DataW.trod at h
  rw[hu] at h
  split at h
  all_goals first
   | (rename_i e; cases e; done)
   | exact ⟨_,rfl,.inl rfl⟩
   | exact ⟨_,rfl,.inr ⟨_,_,rfl⟩⟩
   | cases h
theorem lib_of_laid {W:World} {l:List (String×DataW Unit)} (h:laidMetH Tryz.prog l W) (hp:(l.all fun x=>x.2.handleName?.isNone)=true) (h1:("internal/strconv.uint64pow10",Rows.laid_internal_strconv_uint64pow10)∈l) (h2:("strconv.ErrSyntax",Rows.laid_strconv_ErrSyntax)∈l) (h3:("strconv.ErrRange",Rows.laid_strconv_ErrRange)∈l):LibAt W:=by
 rw[MakeChecks.laidMetH_plain _ _ _ hp] at h
 refine ⟨?_,?_⟩
 ·obtain ⟨g,t,cs,fuel,p,hg,hty,hvar,hd⟩:=Lib.laidMet.reads h h1
  obtain rfl:=Option.some.inj ((show Tryz.prog.globalNamed "internal/strconv.uint64pow10"=some 4 by kernel_rfl).symm.trans hg)
  obtain rfl:=Option.some.inj ((show (Tryz.prog.globals[4]?).map (·.type)=some 181 by kernel_rfl).symm.trans hty)
  rw[pow_data] at hd
  have hu1:Tryz.prog.underlying 181=some (.array 20 159):=Tryz.underlying181
  have hu2:Tryz.prog.underlying 159=some (.int .u64):=Tryz.underlying159
  have e:=Lib.cells_of_tab hu1 hu2 (by kernel_rfl) (by kernel_rfl) hd
  unfold Lib.TabIs
  rw[hvar,← e]
 ·have key:∀ (n:String) (d:DataW Unit) (g:Nat),Tryz.prog.globalNamed n=some g→(Tryz.prog.globals[g]?).map (·.type)=some 155→(n,d)∈l→∃ ev,W.cell? ⟨g,0,none⟩=some ev∧(ev=.nilIface∨∃ te pe,ev=.iface te pe):=by
   intro n d g hgn hgt hm
   obtain ⟨g',t,cs,fuel,p,hg,hty,hvar,hd⟩:=Lib.laidMet.reads h hm
   obtain rfl:=Option.some.inj (hgn.symm.trans hg)
   obtain rfl:=Option.some.inj (hgt.symm.trans hty)
   obtain ⟨v,hv,hv2⟩:=err_cells Tryz.underlying155 hd
   refine ⟨v,?_,hv2⟩
   rw[World.var?_cell hg hvar 0,← Array.getElem?_toList,hv]
   rfl
  rintro g (rfl|rfl)
  ·exact key _ _ _ (by kernel_rfl) (by kernel_rfl) h2
  ·exact key _ _ _ (by kernel_rfl) (by kernel_rfl) h3
theorem notes_bulk {H:Type} {enc:TypeId×Value→H} {w:World} {spare:Nat→Bool} {held:Bool} {n m nc:Nat} {v0:Value} {na:Option Addr} {x:DataW H×List MemPlace} (h:DataW.trod enc Tryz.prog w 0 spare held n 27 [v0,.slice na m nc]=some x) :
 m=0∨∃ k∈x.1.weights Tryz.prog 27,m * 32≤k:=by
 obtain ⟨xs,n1,rfl,hx0,h2,hxl,hall2⟩:=DataW.trod_struct Tryz.underlying27 h
 obtain ⟨x0,x1,rfl⟩:∃ x0 x1,xs=[x0,x1]:=by
  match xs,hxl with
  | [x0,x1],_=>exact ⟨x0,x1,rfl⟩
 have f1:DataW.trod enc Tryz.prog w 0 spare held n1 25 (List.take (Tryz.prog.cellsOf 25) (List.drop 1 [v0,.slice na m nc]))=some x1:=hall2 1 _ rfl
 simp only[cells_is.2.2.2.2.1,List.drop_succ_cons,List.drop_zero,List.take_succ_cons,List.take_zero] at f1
 rcases DataW.trod_slice Tryz.underlying25 f1 with ⟨he,_⟩|⟨a0,len,cap0,elems,rest,n',_,he,hx,_,_,_,hel,_⟩
 ·simp only[List.cons.injEq,Value.slice.injEq,and_true] at he
  exact .inl he.2.1
 ·simp only[List.cons.injEq,Value.slice.injEq,and_true] at he
  obtain ⟨_,rfl,_⟩:=he
  refine .inr ⟨(elems.length+rest.length) * Tryz.prog.bytesOf 90,?_,?_⟩
  ·have e1:(elems.length+rest.length) * Tryz.prog.bytesOf 90∈x1.1.weights Tryz.prog 25:=by
    rw[hx,DataW.weights,Tryz.underlying25]
    simp
   rw[hx0]
   show _∈DataW.weights Tryz.prog 27 (.agg [x0.1,x1.1])
   rw[DataW.weights,Tryz.underlying27]
   show _∈DataW.weightsEach Tryz.prog [24,25] [x0.1,x1.1]
   simp only[DataW.weightsEach,List.mem_append]
   exact .inr (.inl e1)
  ·rw[show Tryz.prog.bytesOf 90=32 from by kernel_rfl,← hel]
   exact Nat.mul_le_mul_right _ (Nat.le_add_right _ _)
theorem kindKeeps_lifted (os:Os) (started:os.Started) (H:Type) (enc:TypeId×Value→H) :
 ReturnsInHanded {} Tryz.checked os 4 .any (fun w args=>(Rows.kindKeepsSpec.pre enc Tryz.prog Tryz.f4 [] false w args∧laidMetH Tryz.prog Rows.kindKeepsRow.laid w)∧sizedMet enc Tryz.prog Tryz.f4 (OpenSpec.ofChange Rows.kindKeepsSpec) false w args)
  (Rows.kindKeepsSpec.post enc Tryz.prog Tryz.f4 false true false false):=by
 refine returnsInHanded_of_change_and (C:=Tryz.checked) (X:=fun w _=>laidMetH Tryz.prog Rows.kindKeepsRow.laid w) (fun _ _ _ hh h=>h.of_heap hh) own started (by kernel_rfl) Tryz.func4
  (ChangeSpec.witness_shaped (enc:=enc) (C:=Tryz.checked) (os:=os) (X:=fun w _=>laidMetH Tryz.prog Rows.kindKeepsRow.laid w) false (World.laidAll Tryz.prog os Rows.kindKeepsRow.laid) #[.agg #[.slice none 0 0,.slice none 0 0],str [],str []] 8 (World.laidAll_os _ _ _) (World.shaped_of_ZipB (by kernel_rfl) (by kernel_rfl)) (by kernel_rfl) (by kernel_rfl) (by kernel_rfl)
   (by rw[MakeChecks.laidMetH_plain _ _ _ (by kernel_rfl)]; exact laidMet_laidAll _ (by kernel_rfl) (by kernel_rfl))) ?_
 intro W base args ds gs before hval0 hW _ hwt hL _
 have hW':=hW
 obtain ⟨p,q,hA0,hV,rfl,hfz,hnd⟩:=hW
 have hA:DataW.TrodAll enc Tryz.prog W 0 (fun _=>true) true Tryz.f4.params.toList args.toList ds p:=hA0
 rw[Tryz.params4] at hA
 obtain ⟨v0,v1,v2,d0,d1,d2,p0,p1,p2,hargs,rfl,rfl,h0,h1,h2⟩:=trodAll_three hA
 subst hargs
 obtain ⟨rfl,rfl⟩:=trodVars_none hV
 clear hA0 hA
 simp only[List.append_nil] at hW'
 have h0k:=h0
 have h1k:=h1
 have h2k:=h2
 obtain ⟨n0,h0⟩:=h0
 obtain ⟨n1,h1⟩:=h1
 obtain ⟨n2,h2⟩:=h2
 obtain ⟨⟨l0,nt0⟩,fa0,fc0,na0,nc0,e0,hs0⟩:=schema_of h0
 obtain ⟨cs0,rfl,_⟩:=okWide_struct Tryz.underlying27 (hval0 0 _ _ (by rw[Tryz.params4]; rfl) rfl)
 obtain rfl:cs0=#[.slice fa0 l0.length fc0,.slice na0 nt0.length nc0]:=by cases cs0; simpa [Value.cells] using e0
 obtain ⟨t1,ht1,htl1⟩:∃ l,v1=str l∧l.length≤9223372036854775807:=by
  obtain ⟨s,rfl⟩:=okWide_string Tryz.underlying9 (hval0 1 _ _ (by rw[Tryz.params4]; rfl) rfl)
  exact str_of h1
 subst ht1
 obtain ⟨t2,ht2,htl2⟩:∃ l,v2=str l∧l.length≤9223372036854775807:=by
  obtain ⟨s,rfl⟩:=okWide_string Tryz.underlying9 (hval0 2 _ _ (by rw[Tryz.params4]; rfl) rfl)
  exact str_of h2
 subst ht2
 have hnt0:nt0.length≤8796093022208:=by
  rcases notes_bulk (v0:=.slice fa0 l0.length fc0) (na:=na0) (m:=nt0.length) (nc:=nc0) (by simpa [Value.cells] using h0) with h9|⟨k,hk,hkl⟩
  ·omega
  ·rw[Tryz.params4] at hwt
   have hall:=List.all_eq_true.1 hwt k (by
    simp only[List.cons_append,List.nil_append,DataW.weightsEach,List.mem_append]
    exact .inl hk)
   have hr:k≤140737488351232:=of_decide_eq_true hall
   omega
 refine (kindKeeps_walk W (says_of_laid hL (by kernel_rfl) (by simp[Rows.kindKeepsRow])) (lib_of_laid hL (by kernel_rfl) (by simp[Rows.kindKeepsRow]) (by simp[Rows.kindKeepsRow]) (by simp[Rows.kindKeepsRow])) W.heap.size (Nat.le_refl _) t1 t2 htl1 htl2 fa0 l0 fc0 na0 nt0 nc0 hs0 hnt0).mono fun e W' ⟨v,he,hsy,hv⟩=>?_
 subst he; subst hv
 have hlt:∀ x∈p0++p1++p2,x.block < W.heap.size:=fun x hx=>by simpa using hW'.lt x hx
 have hlt0:∀ x∈p0,x.block < W.heap.size:=fun x hx=>hlt x (by simp[hx])
 have hlt1:∀ x∈p1,x.block < W.heap.size:=fun x hx=>hlt x (by simp[hx])
 have hlt2:∀ x∈p2,x.block < W.heap.size:=fun x hx=>hlt x (by simp[hx])
 exact ⟨_,rfl,post_of_sy (pr:=[]) (pa:=p0++(p1++p2)) (pv:=[]) hW' hsy (trodAll_cons_mk (shut_bool Tryz.underlying4 _) trodAll_mk0) (trodAll_mk3 (Below.trod (by kernel_rfl) (by kernel_rfl) (of_decide_eq_true (by kernel_rfl)) h0k hsy.below hlt0) (Below.trod (by kernel_rfl) (by kernel_rfl) (of_decide_eq_true (by kernel_rfl)) h1k hsy.below hlt1) (Below.trod (by kernel_rfl) (by kernel_rfl) (of_decide_eq_true (by kernel_rfl)) h2k hsy.below hlt2)) rfl⟩
theorem kindKeeps_over:Rows.KindKeepsSaid :=
 OpenClaim.holds_of_wide 4 Tryz.f4 rfl rfl rfl rfl rfl rfl rfl ⟨rfl,rfl,rfl,rfl,rfl⟩ rfl rfl rfl rfl rfl (by kernel_rfl) Tryz.func4 (by kernel_rfl)
  (of_decide_eq_true (by kernel_rfl)) (by unfold Func.isWrapper; first|(rw[if_pos (by decide +kernel)]; kernel_rfl)|(rw[if_neg (by decide +kernel)]; exact ⟨rfl,rfl⟩))
  (fun os started H enc _=>kindKeeps_lifted os started H enc)
theorem kindKeeps_card:Rows.KindKeepsCardSaid :=
 Claim7.holds_tied_plain_at .later [] [.data,.data,.data,.sentinel,.sentinel,.data] true (true,"12e5775d0be9a7ba58339a37088b91ca25e5fad66a24d9ef9a1e6dcd491aad74") true
  kindKeeps_over (fun _ h=>by cases h) (by kernel_rfl) (fun _ h=>by cases h) kindKeeps_row_tie rfl ⟨rfl,rfl⟩ (by kernel_rfl) rfl
  (fun f fn hf hfn=>by
   obtain rfl:f=4:=Option.some.inj ((show Tryz.prog.funcNamed "colonnade/colonnadelaw03.KindKeeps"=some 4 by kernel_rfl).symm.trans hf) |>.symm
   obtain rfl:fn=Tryz.f4:=(Option.some.inj (Tryz.func4.symm.trans hfn)).symm
   exact ⟨by kernel_rfl,fun j t ht=>by
    rw[Tryz.params4] at ht
    match j,ht with
    | 0,ht =>
     obtain rfl:t=27:=(Option.some.inj ht).symm
     show Program.wantsStandIn _ _=false
     kernel_rfl
    | 1,ht =>
     obtain rfl:t=9:=(Option.some.inj ht).symm
     show Program.wantsStandIn _ _=false
     kernel_rfl
    | 2,ht =>
     obtain rfl:t=9:=(Option.some.inj ht).symm
     show Program.wantsStandIn _ _=false
     kernel_rfl⟩)
  (by kernel_rfl)
#print axioms kindKeeps_card
end Go.Proofs.YtdmdgkpjjpijdaaGreatDoor
