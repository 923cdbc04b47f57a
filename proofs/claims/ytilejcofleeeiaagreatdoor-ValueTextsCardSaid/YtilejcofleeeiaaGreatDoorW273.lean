/- YtilejcofleeeiaaGreatDoor: ValueTexts answers true: the row and its tied card. -/
import Derived.Test.YtilejcofleeeiaaGreatDoorW15
import Derived.Test.YtilejcofleeeiaaGreatDoorTie
import Derived.Test.YtilejcofleeeiaaGreatDoorCards
import Derived.ProofKit
import Derived.WalkKit
import Derived.LaidMore
import Derived.OpenShut
import Derived.SevenTiedAt
import Derived.Test.YtilejcofleeeiaaGreatDoorW28
import Derived.Lib.LaidU8T
import Derived.Carry
import Derived.Test.YtilejcofleeeiaaGreatDoorW272
import Derived.Lay
namespace Go.Proofs.YtilejcofleeeiaaGreatDoor
open Go Go.K Go.ChangeShapes Go.WideShapes Go.ChangeAt Go.RowKit
set_option maxRecDepth 100000
set_option linter.unusedVariables false
set_option linter.unusedSimpArgs false
theorem own:ownKnob Tryz.prog.godebug=none:=by kernel_rfl
theorem kept_of_sy {w w':World} (h:Sy w [] w') (may:MemPlace→Prop):w.keptBut w' may:=by
 refine ⟨h.os,h.output,fun i hi=>?_⟩
 rw[h.rest i hi (by simp)]
 cases w.heap[i]? with
 | none=>rfl
 | some o=>cases o<;>simp
theorem post_of_sy {H:Type} {enc:TypeId×Value→H} {P:Program} {f:Func} {s:ChangeSpec} {W W':World} {args:Array Value} {v:Value} {ds gs:List (DataW H)} {before pr pa pv:List MemPlace}
 (hW:DataW.Whole enc P f.params.toList s.vars false W args.toList ds gs before) (hsy:Sy W [] W')
 (hres:DataW.TrodAll enc P W' W.heap.size (fun _=>false) false f.resultTypes.toList (v.resultList f.resultTypes.size) (s.fn H (ds++gs)).results pr)
 (hargs:DataW.TrodAll enc P W' 0 (fun b=>decide (b < W.heap.size)) true f.params.toList args.toList (s.fn H (ds++gs)).args pa)
 (hvars:DataW.TrodVars enc P W' (fun b=>decide (b < W.heap.size)) s.vars (s.fn H (ds++gs)).vars pv):s.post enc P f false true false false W args v W' :=
 ⟨ds,gs,before,pr,pa,pv,hW,hres,hargs,hvars,kept_of_sy hsy _,fun h=>by cases h⟩
theorem says_of_laid {W:World} {l:List (String×DataW Unit)} (h:laidMetH Tryz.prog l W) (hp:(l.all fun x=>x.2.handleName?.isNone)=true) (hm:("colonnade/kind.says",Rows.laid_colonnade_kind_says)∈l):SaysAt W:=by
 rw[MakeChecks.laidMetH_plain _ _ _ hp] at h
 exact says_of_reads (Lib.laidMet.reads h hm)
set_option maxHeartbeats 4000000
section
variable {H:Type} {enc:TypeId×Value→H} {w:World} {spare:Nat→Bool} {held:Bool}
theorem cells_val:Tryz.prog.cellsOf 2=1∧Tryz.prog.cellsOf 27=1∧Tryz.prog.cellsOf 29=4:=by
 refine ⟨?_,?_,?_⟩<;>kernel_rfl
theorem int64_of {n:Nat} {v:Value} {x:DataW H×List MemPlace} (h:DataW.trod enc Tryz.prog w 0 spare held n 2 [v]=some x):∃ k,v=i64 k∧-9223372036854775808≤k∧k < 9223372036854775808:=by
 obtain ⟨k,e,_,hw⟩:=DataW.trod_int Tryz.underlying2 h
 simp only[List.cons.injEq,and_true] at e
 have e1:IntKind.i64.min=-9223372036854775808:=rfl
 have e2:IntKind.i64.max=9223372036854775807:=rfl
 simp only[Lit.wf,Bool.and_eq_true,decide_eq_true_eq,e1,e2] at hw
 exact ⟨k,e,hw.1,by omega⟩
theorem value_in {n:Nat} {cs:List Value} {x:DataW H×List MemPlace} (h:DataW.trod enc Tryz.prog w 0 spare held n 29 cs=some x) :
 ∃ nu num tx v n' y,cs=[.bool nu,i64 num,str tx,v]∧(-9223372036854775808≤num∧num < 9223372036854775808)∧tx.length≤9223372036854775807∧n=n'+1∧DataW.trod enc Tryz.prog w 0 spare held n' 27 [v]=some y:=by
 obtain ⟨q1,q2,q3⟩:=cells_val
 obtain ⟨c1,c2,c3,_⟩:=cells_is
 obtain ⟨xs,n1,rfl,_,hl,hxl,hall⟩:=DataW.trod_struct Tryz.underlying29 h
 rw[q3] at hl
 obtain ⟨v0,v1,v2,v3,rfl⟩:∃ v0 v1 v2 v3,cs=[v0,v1,v2,v3]:=by
  match cs,hl with
  | [v0,v1,v2,v3],_=>exact ⟨v0,v1,v2,v3,rfl⟩
 obtain ⟨x0,x1,x2,x3,rfl⟩:∃ x0 x1 x2 x3,xs=[x0,x1,x2,x3]:=by
  match xs,hxl with
  | [x0,x1,x2,x3],_=>exact ⟨x0,x1,x2,x3,rfl⟩
 have f0:DataW.trod enc Tryz.prog w 0 spare held n1 4 (List.take (Tryz.prog.cellsOf 4) (List.drop 0 [v0,v1,v2,v3]))=some x0:=hall 0 _ rfl
 have f1:DataW.trod enc Tryz.prog w 0 spare held n1 2 (List.take (Tryz.prog.cellsOf 2) (List.drop 1 [v0,v1,v2,v3]))=some x1:=hall 1 _ rfl
 have f2:DataW.trod enc Tryz.prog w 0 spare held n1 9 (List.take (Tryz.prog.cellsOf 9) (List.drop 2 [v0,v1,v2,v3]))=some x2:=hall 2 _ rfl
 have f3:DataW.trod enc Tryz.prog w 0 spare held n1 27 (List.take (Tryz.prog.cellsOf 27) (List.drop 3 [v0,v1,v2,v3]))=some x3:=hall 3 _ rfl
 simp only[c1,c3,q1,q2,List.drop_zero,List.drop_succ_cons,List.take_succ_cons,List.take_zero] at f0 f1 f2 f3
 obtain ⟨nu,rfl⟩:=bool_of f0
 obtain ⟨num,rfl,g1,g2⟩:=int64_of f1
 obtain ⟨tx,rfl,g3⟩:=str_of f2
 exact ⟨nu,num,tx,v3,n1,x3,rfl,⟨g1,g2⟩,g3,rfl,f3⟩
theorem RdV.of_get {lo b:Nat} (hb:b < lo):∀ (n off:Nat),(∀ i,i < n→∃ f a c,At w b (off+i * 4) (Vl.cells f a c)∧VAt w lo f a c)→∃ l,l.length=n∧RdV w lo (some ⟨b,off,none⟩) l
 | 0,off,_=>⟨[],rfl,.nil _⟩
 | n+1,off,h=>by
  obtain ⟨f,a,c,h1,h2⟩:=h 0 (by omega)
  obtain ⟨l,hl,hr⟩:=RdV.of_get hb n (off+4) (fun i hi=>by
   obtain ⟨f,a,c,h1,h2⟩:=h (i+1) (by omega)
   exact ⟨f,a,c,by rw[show off+4+i * 4=off+(i+1) * 4 by omega]; exact h1,h2⟩)
  exact ⟨f::l,by simp[hl],.cons hb h2.hc h2.hc2 h2.ht h2.hn (un h1) h2.hr hr⟩
theorem values_of:∀ (n:Nat) {cs:List Value} {x:DataW H×List MemPlace},DataW.trod enc Tryz.prog w 0 spare held n 27 cs=some x →
 ∃ a l c,cs=[.slice a (List.length l) c]∧l.length≤c∧c≤9223372036854775807∧RdV w w.heap.size a l:=by
 intro n
 induction n using Nat.strongRecOn with
 | ind n ih =>
  intro cs x h
  obtain ⟨a,len,cap,rfl,hl,hc,rfl|⟨b,off,n',rfl,hb,rfl,hall⟩⟩:=slice_at Tryz.underlying27 cells_val.2.2 (by omega) h
  ·exact ⟨a,[],cap,rfl,hl,hc,.nil _⟩
  ·obtain ⟨l,hll,hr⟩:=RdV.of_get (w:=w) hb len off (fun i hi=>by
    obtain ⟨cs',y,h1,_,h3⟩:=hall i hi
    obtain ⟨nu,num,tx,v,n2,y2,rfl,h4,h5,rfl,h6⟩:=value_in h3
    obtain ⟨a',l',c',h7,h8,h9,h10⟩:=ih n2 (by omega) h6
    simp only[List.cons.injEq,and_true] at h7
    subst h7
    exact ⟨.mk nu num tx l',a',c',h1,h10,h8,h9,h5,h4⟩)
   subst hll
   exact ⟨_,l,cap,rfl,hl,hc,hr⟩
theorem value_of {n:Nat} {cs:List Value} {x:DataW H×List MemPlace} (h:DataW.trod enc Tryz.prog w 0 spare held n 29 cs=some x):∃ v a c,cs=Vl.cells v a c∧VAt w w.heap.size v a c:=by
 obtain ⟨nu,num,tx,v,n',y,rfl,h4,h5,rfl,h6⟩:=value_in h
 obtain ⟨a',l',c',h7,h8,h9,h10⟩:=values_of _ h6
 simp only[List.cons.injEq,and_true] at h7
 subst h7
 exact ⟨.mk nu num tx l',a',c',rfl,h10,h8,h9,h5,h4⟩
theorem field_in {n:Nat} {cs:List Value} {x:DataW H×List MemPlace} (h:DataW.trod enc Tryz.prog w 0 spare held n 26 cs=some x):∃ f a c,cs=Fld.cells f a c∧FlAt w w.heap.size f a c∧f.nm.length≤9223372036854775807:=by
 obtain ⟨nm,nl,k,wd,id,ix,v,n',y,rfl,h4,rfl,h6⟩:=field_of h
 obtain ⟨a',l',c',h7,h8,h9,h10⟩:=fields_of _ h6
 simp only[List.cons.injEq,and_true] at h7
 subst h7
 exact ⟨.mk nm nl k wd id ix l',a',c',rfl,⟨h10,h8,h9⟩,h4⟩
end
theorem u8_extra:U8Extra Tryz.prog laysValid_ren:=⟨by kernel_rfl,by kernel_rfl,by kernel_rfl,by kernel_rfl,by kernel_rfl,by kernel_rfl,by kernel_rfl⟩
theorem first_data:Rows.laid_unicode_utf8_first=Lib.firstData:=by kernel_rfl
theorem accept_data:(Rows.laid_unicode_utf8_acceptRanges:DataW Unit)=Lib.acceptData:=by kernel_rfl
theorem tabs_of_laid {W:World} {l:List (String×DataW Unit)} (h:laidMetH Tryz.prog l W) (hp:(l.all fun x=>x.2.handleName?.isNone)=true) (h1:("unicode/utf8.first",Rows.laid_unicode_utf8_first)∈l) (h2:("unicode/utf8.acceptRanges",Rows.laid_unicode_utf8_acceptRanges)∈l):TabsAt W:=by
 rw[MakeChecks.laidMetH_plain _ _ _ hp] at h
 have k1:=Lib.laidMet.reads h h1
 have k2:=Lib.laidMet.reads h h2
 rw[first_data] at k1
 rw[accept_data] at k2
 exact utf8Tabs_of_readsT (ρ:=laysValid_ren) (U8Types.of196 laysValid) u8_extra k1 k2
set_option maxHeartbeats 2000000
theorem pow_data:(Rows.laid_internal_strconv_uint64pow10:DataW Unit)=Lib.tabData .u64 Lib.pow10Tab:=by kernel_rfl
theorem err_cells {H:Type} {enc:TypeId×Value→H} {P:Program} {w:World} {base:Nat} {sp:Nat→Bool} {held:Bool} {fuel:Nat} {t:TypeId} {ms:Array (String×TypeId)} {cs:List Value} {x:DataW H×List MemPlace} (hu:P.underlying t=some (.interface ms))
 (h:DataW.trod enc P w base sp held fuel t cs=some x):∃ v,cs=[v]∧(v=.nilIface∨∃ te pe,v=.iface te pe):=by
 cases fuel with
 | zero=>simp[DataW.trod] at h
 | succ fuel =>
  unfold DataW.trod at h
  rw[hu] at h
  split at h
  all_goals first
   | (rename_i e; cases e; done)
   | exact ⟨_,rfl,.inl rfl⟩
   | exact ⟨_,rfl,.inr ⟨_,_,rfl⟩⟩
   | cases h
theorem lib_of_laid {W:World} {l:List (String×DataW Unit)} (h:laidMetH Tryz.prog l W) (hp:(l.all fun x=>x.2.handleName?.isNone)=true) (h1:("internal/strconv.uint64pow10",Rows.laid_internal_strconv_uint64pow10)∈l) (h2:("strconv.ErrSyntax",Rows.laid_strconv_ErrSyntax)∈l) (h3:("strconv.ErrRange",Rows.laid_strconv_ErrRange)∈l):LibV W:=by
 rw[MakeChecks.laidMetH_plain _ _ _ hp] at h
 refine ⟨?_,?_,trivial⟩
 ·obtain ⟨g,t,cs,fuel,p,hg,hty,hvar,hd⟩:=Lib.laidMet.reads h h1
  obtain rfl:=Option.some.inj ((show Tryz.prog.globalNamed "internal/strconv.uint64pow10"=some 2 by kernel_rfl).symm.trans hg)
  obtain rfl:=Option.some.inj ((show (Tryz.prog.globals[2]?).map (·.type)=some 180 by kernel_rfl).symm.trans hty)
  rw[pow_data] at hd
  have hu1:Tryz.prog.underlying 180=some (.array 20 80):=Tryz.underlying180
  have hu2:Tryz.prog.underlying 80=some (.int .u64):=Tryz.underlying80
  have e:=Lib.cells_of_tab hu1 hu2 (by kernel_rfl) (by kernel_rfl) hd
  unfold Lib.TabIs
  rw[hvar,← e]
 ·have key:∀ (n:String) (d:DataW Unit) (g:Nat),Tryz.prog.globalNamed n=some g→(Tryz.prog.globals[g]?).map (·.type)=some 91→(n,d)∈l→∃ ev,W.cell? ⟨g,0,none⟩=some ev∧(ev=.nilIface∨∃ te pe,ev=.iface te pe):=by
   intro n d g hgn hgt hm
   obtain ⟨g',t,cs,fuel,p,hg,hty,hvar,hd⟩:=Lib.laidMet.reads h hm
   obtain rfl:=Option.some.inj (hgn.symm.trans hg)
   obtain rfl:=Option.some.inj (hgt.symm.trans hty)
   obtain ⟨v,hv,hv2⟩:=err_cells Tryz.underlying91 hd
   refine ⟨v,?_,hv2⟩
   rw[World.var?_cell hg hvar 0,← Array.getElem?_toList,hv]
   rfl
  rintro g (rfl|rfl)
  ·exact key _ _ _ (by kernel_rfl) (by kernel_rfl) h2
  ·exact key _ _ _ (by kernel_rfl) (by kernel_rfl) h3
theorem valueTexts_lifted (os:Os) (started:os.Started) (H:Type) (enc:TypeId×Value→H) :
 ReturnsInHanded {} Tryz.checked os 3 .any (fun w args=>(Rows.valueTextsSpec.pre enc Tryz.prog Tryz.f3 [] false w args∧laidMetH Tryz.prog Rows.valueTextsRow.laid w)∧sizedMet enc Tryz.prog Tryz.f3 (OpenSpec.ofChange Rows.valueTextsSpec) false w args)
  (Rows.valueTextsSpec.post enc Tryz.prog Tryz.f3 false true false false):=by
 refine returnsInHanded_of_change_and (C:=Tryz.checked) (X:=fun w _=>laidMetH Tryz.prog Rows.valueTextsRow.laid w) (fun _ _ _ hh h=>h.of_heap hh) own started (by kernel_rfl) Tryz.func3
  (ChangeSpec.witness_shaped (enc:=enc) (C:=Tryz.checked) (os:=os) (X:=fun w _=>laidMetH Tryz.prog Rows.valueTextsRow.laid w) false (World.laidAll Tryz.prog os Rows.valueTextsRow.laid) #[.agg #[str [],.bool false,i64 0,i64 0,i64 0,i64 0,.slice none 0 0],.agg #[.bool false,i64 0,str [],.slice none 0 0],str []] 8 (World.laidAll_os _ _ _) (World.shaped_of_ZipB (by kernel_rfl) (by kernel_rfl)) (by kernel_rfl) (by kernel_rfl) (by kernel_rfl)
   (by rw[MakeChecks.laidMetH_plain _ _ _ (by kernel_rfl)]; exact laidMet_laidAll _ (by kernel_rfl) (by kernel_rfl))) ?_
 intro W base args ds gs before hval0 hW _ _ hL _
 have hW':=hW
 obtain ⟨p,q,hA0,hV,rfl,hfz,hnd⟩:=hW
 have hA:DataW.TrodAll enc Tryz.prog W 0 (fun _=>true) true Tryz.f3.params.toList args.toList ds p:=hA0
 rw[Tryz.params3] at hA
 obtain ⟨v0,v1,v2,d0,d1,d2,p0,p1,p2,hargs,rfl,rfl,h0,h1,h2⟩:=trodAll_three hA
 subst hargs
 obtain ⟨rfl,rfl⟩:=trodVars_none hV
 clear hA0 hA
 simp only[List.append_nil] at hW'
 have h0k:=h0
 have h1k:=h1
 have h2k:=h2
 obtain ⟨n0,h0⟩:=h0
 obtain ⟨n1,h1⟩:=h1
 obtain ⟨n2,h2⟩:=h2
 obtain ⟨f,fa,fc,e0,hF,hfn⟩:=field_in h0
 obtain ⟨x,xa,xc,e1,hX⟩:=value_of h1
 obtain ⟨cs0,rfl,_⟩:=okWide_struct Tryz.underlying26 (hval0 0 _ _ (by rw[Tryz.params3]; rfl) rfl)
 obtain ⟨cs1,rfl,_⟩:=okWide_struct Tryz.underlying29 (hval0 1 _ _ (by rw[Tryz.params3]; rfl) rfl)
 obtain rfl:cs0=(f.cells fa fc).toArray:=by cases cs0; simpa [Value.cells] using e0
 obtain rfl:cs1=(x.cells xa xc).toArray:=by cases cs1; simpa [Value.cells] using e1
 obtain ⟨t2,ht2,htl2⟩:∃ l,v2=str l∧l.length≤9223372036854775807:=by
  obtain ⟨s,rfl⟩:=okWide_string Tryz.underlying9 (hval0 2 _ _ (by rw[Tryz.params3]; rfl) rfl)
  exact str_of h2
 subst ht2
 refine (valueTexts_walk W (says_of_laid hL (by kernel_rfl) (by simp[Rows.valueTextsRow])) (tabs_of_laid hL (by kernel_rfl) (by simp[Rows.valueTextsRow]) (by simp[Rows.valueTextsRow])) (lib_of_laid hL (by kernel_rfl) (by simp[Rows.valueTextsRow]) (by simp[Rows.valueTextsRow]) (by simp[Rows.valueTextsRow])) W.heap.size (Nat.le_refl _) f x fa xa fc xc hF hfn hX t2 htl2).mono fun e W' ⟨v,he,hsy,hv⟩=>?_
 subst he; subst hv
 have hlt:∀ x∈p0++p1++p2,x.block < W.heap.size:=fun x hx=>by simpa using hW'.lt x hx
 have hlt0:∀ x∈p0,x.block < W.heap.size:=fun x hx=>hlt x (by simp[hx])
 have hlt1:∀ x∈p1,x.block < W.heap.size:=fun x hx=>hlt x (by simp[hx])
 have hlt2:∀ x∈p2,x.block < W.heap.size:=fun x hx=>hlt x (by simp[hx])
 exact ⟨_,rfl,post_of_sy (pr:=[]) (pa:=p0++(p1++p2)) (pv:=[]) hW' hsy (trodAll_cons_mk (shut_bool Tryz.underlying4 _) trodAll_mk0) (trodAll_mk3 (Below.trod (by kernel_rfl) (by kernel_rfl) (of_decide_eq_true (by kernel_rfl)) h0k hsy.below hlt0) (Below.trod (by kernel_rfl) (by kernel_rfl) (of_decide_eq_true (by kernel_rfl)) h1k hsy.below hlt1) (Below.trod (by kernel_rfl) (by kernel_rfl) (of_decide_eq_true (by kernel_rfl)) h2k hsy.below hlt2)) rfl⟩
theorem valueTexts_over:Rows.ValueTextsSaid :=
 OpenClaim.holds_of_wide 3 Tryz.f3 rfl rfl rfl rfl rfl rfl rfl ⟨rfl,rfl,rfl,rfl,rfl⟩ rfl rfl rfl rfl rfl (by kernel_rfl) Tryz.func3 (by kernel_rfl)
  (of_decide_eq_true (by kernel_rfl)) (by unfold Func.isWrapper; first|(rw[if_pos (by decide +kernel)]; kernel_rfl)|(rw[if_neg (by decide +kernel)]; exact ⟨rfl,rfl⟩))
  (fun os started H enc _=>valueTexts_lifted os started H enc)
theorem valueTexts_card:Rows.ValueTextsCardSaid :=
 Claim7.holds_tied_plain_at .later [] [.data,.data,.data,.data,.sentinel,.sentinel,.data,.pinned] true (true,"2fc2752ce4446cec2b8a20beb294016f9e53f58e0d98627e8de1cafc88997082") true
  valueTexts_over (fun _ h=>by cases h) (by kernel_rfl) (fun _ h=>by cases h) valueTexts_row_tie rfl ⟨rfl,rfl⟩ (by kernel_rfl) rfl
  (fun f fn hf hfn=>by
   obtain rfl:f=3:=Option.some.inj ((show Tryz.prog.funcNamed "colonnade/colonnadelaw04.ValueTexts"=some 3 by kernel_rfl).symm.trans hf) |>.symm
   obtain rfl:fn=Tryz.f3:=(Option.some.inj (Tryz.func3.symm.trans hfn)).symm
   exact ⟨by kernel_rfl,fun j t ht=>by
    rw[Tryz.params3] at ht
    match j,ht with
    | 0,ht =>
     obtain rfl:t=26:=(Option.some.inj ht).symm
     show Program.wantsStandIn _ _=false
     kernel_rfl
    | 1,ht =>
     obtain rfl:t=29:=(Option.some.inj ht).symm
     show Program.wantsStandIn _ _=false
     kernel_rfl
    | 2,ht =>
     obtain rfl:t=9:=(Option.some.inj ht).symm
     show Program.wantsStandIn _ _=false
     kernel_rfl⟩)
  (by kernel_rfl)
#print axioms valueTexts_card
end Go.Proofs.YtilejcofleeeiaaGreatDoor
