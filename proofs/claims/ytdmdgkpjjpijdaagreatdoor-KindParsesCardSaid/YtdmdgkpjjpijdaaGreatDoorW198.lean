/- YtdmdgkpjjpijdaaGreatDoor: KindParses answers true: the row and its tied card. -/
import Derived.Test.YtdmdgkpjjpijdaaGreatDoorW15
import Derived.Test.YtdmdgkpjjpijdaaGreatDoorTie
import Derived.Test.YtdmdgkpjjpijdaaGreatDoorCards
import Derived.ProofKit
import Derived.WalkKit
import Derived.LaidMore
import Derived.OpenShut
import Derived.SevenTiedAt
import Derived.Test.YtdmdgkpjjpijdaaGreatDoorW8
import Derived.Test.YtdmdgkpjjpijdaaGreatDoorKo
import Derived.Test.YtdmdgkpjjpijdaaGreatDoorKs
import Derived.Test.YtdmdgkpjjpijdaaGreatDoorW14
import Derived.Test.YtdmdgkpjjpijdaaGreatDoorW175
import Derived.Test.YtdmdgkpjjpijdaaGreatDoorW160
import Derived.Test.YtdmdgkpjjpijdaaGreatDoorW196
import Derived.Carry
import Derived.Lay
namespace Go.Proofs.YtdmdgkpjjpijdaaGreatDoor
open Go Go.K Go.ChangeShapes Go.WideShapes Go.ChangeAt Go.RowKit
set_option maxRecDepth 100000
set_option linter.unusedVariables false
set_option linter.unusedSimpArgs false
theorem own : ownKnob Tryz.prog.godebug = none := by kernel_rfl
theorem kept_of_sy {w w' : World} (h : Sy w [] w') (may : MemPlace → Prop) : w.keptBut w' may := by
  refine ⟨h.os,h.output,fun i hi => ?_⟩
  rw [h.rest i hi (by simp)]
  cases w.heap[i]? with
  | none => rfl
  | some o => cases o <;> simp
theorem post_of_sy {H : Type} {enc : TypeId × Value → H} {P : Program} {f : Func} {s : ChangeSpec} {W W' : World} {args : Array Value} {v : Value} {ds gs : List (DataW H)} {before pr pa pv : List MemPlace}
    (hW : DataW.Whole enc P f.params.toList s.vars false W args.toList ds gs before) (hsy : Sy W [] W')
    (hres : DataW.TrodAll enc P W' W.heap.size (fun _ => false) false f.resultTypes.toList (v.resultList f.resultTypes.size) (s.fn H (ds ++ gs)).results pr)
    (hargs : DataW.TrodAll enc P W' 0 (fun b => decide (b < W.heap.size)) true f.params.toList args.toList (s.fn H (ds ++ gs)).args pa)
    (hvars : DataW.TrodVars enc P W' (fun b => decide (b < W.heap.size)) s.vars (s.fn H (ds ++ gs)).vars pv) : s.post enc P f false true false false W args v W' :=
  ⟨ds,gs,before,pr,pa,pv,hW,hres,hargs,hvars,kept_of_sy hsy _,fun h => by cases h⟩
theorem says_of_laid {W : World} {l : List (String × DataW Unit)} (h : laidMetH Tryz.prog l W) (hp : (l.all fun x => x.2.handleName?.isNone) = true) (hm : ("colonnade/kind.says",Rows.laid_colonnade_kind_says) ∈ l) : SaysAt W := by
  rw [MakeChecks.laidMetH_plain _ _ _ hp] at h
  exact says_of_reads (Lib.laidMet.reads h hm)
end Go.Proofs.YtdmdgkpjjpijdaaGreatDoor
namespace Go.Proofs.YtdmdgkpjjpijdaaGreatDoor
open Go Go.K
set_option maxRecDepth 100000
set_option linter.unusedVariables false
set_option linter.unusedSimpArgs false
set_option maxHeartbeats 4000000
end Go.Proofs.YtdmdgkpjjpijdaaGreatDoor
namespace Go.Proofs.YtdmdgkpjjpijdaaGreatDoor
open Go Go.K
set_option maxRecDepth 100000
set_option linter.unusedVariables false
set_option linter.unusedSimpArgs false
set_option maxHeartbeats 4000000
end Go.Proofs.YtdmdgkpjjpijdaaGreatDoor
namespace Go.Proofs.YtdmdgkpjjpijdaaGreatDoor
open Go Go.K
set_option maxRecDepth 100000
set_option linter.unusedVariables false
set_option linter.unusedSimpArgs false
set_option maxHeartbeats 4000000
section
variable {H : Type} {enc : TypeId × Value → H} {w : World} {spare : Nat → Bool} {held : Bool}
theorem at_of_cells {a : Addr} {n : Nat} {cs : List Value} (h : w.cells? 0 a n = some cs) (hn : 0 < n) : a.spot = none ∧ At w a.block a.off cs := by
  obtain ⟨_,hl,hc⟩ := World.cells?_some h
  have h0 := hc 0 hn
  have h00 : (cs[0]?).isSome = true := by rw [List.getElem?_eq_getElem (by omega)]; rfl
  simp only [Addr.add,if_true] at h0
  unfold World.cell? at h0
  cases hb : w.heap[a.block]? with
  | none => rw [hb] at h0; simp only at h0; rw [← h0] at h00; cases h00
  | some o =>
    cases o with
    | map _ _ => rw [hb] at h0; simp only at h0; rw [← h0] at h00; cases h00
    | cells c ty fr =>
      rw [hb] at h0
      simp only at h0
      have hs : a.spot = none := by
        cases hs : a.spot with
        | none => rfl
        | some s => rw [hs] at h0; simp at h0; rw [h0] at h00; cases h00
      refine ⟨hs,c,ty,fr,hb,?_⟩
      apply List.ext_getElem?
      intro i
      rw [List.getElem?_take]
      split
      · rename_i hi
        rw [← hc i (by omega),List.getElem?_drop,Array.getElem?_toList]
        unfold World.cell? Addr.add
        by_cases hi0 : i = 0
        · subst hi0; simp [hb,hs]
        · simp [hb,hi0]
      · rw [List.getElem?_eq_none (by omega)]
    | _ => rw [hb] at h0; simp only at h0; rw [← h0] at h00; cases h00
theorem slice_at {t e : TypeId} {sz n : Nat} {cs : List Value} {x : DataW H × List MemPlace} (ht : Tryz.prog.underlying t = some (.slice e)) (hz : Tryz.prog.cellsOf e = sz) (hz0 : 0 < sz) (h : DataW.trod enc Tryz.prog w 0 spare held n t cs = some x) :
    ∃ a len cap,cs = [.slice a len cap] ∧ len ≤ cap ∧ cap ≤ 9223372036854775807 ∧ (len = 0 ∨ ∃ b off n',a = some ⟨b,off,none⟩ ∧ b < w.heap.size ∧ n = n' + 1 ∧ ∀ i,i < len → ∃ cs' y,At w b (off + i * sz) cs' ∧ cs'.length = sz ∧ DataW.trod enc Tryz.prog w 0 spare held n' e cs' = some y) := by
  rcases DataW.trod_slice ht h with ⟨rfl,_⟩ | ⟨a,len,cap,elems,rest,n',rfl,rfl,_,_,hl,hc,hel,hall,_⟩
  · exact ⟨none,0,0,rfl,Nat.le_refl _,by omega,.inl rfl⟩
  · refine ⟨some a,len,cap,rfl,hl,by simp only [maxLen] at hc; omega,?_⟩
    rw [hz] at hall
    rcases Nat.eq_zero_or_pos len with h0 | h0
    · exact .inl h0
    have get : ∀ i,i < len → ∃ cs' y,w.cells? 0 (a.add (i * sz)) sz = some cs' ∧ DataW.trod enc Tryz.prog w 0 spare held n' e cs' = some y := fun i hi => by
      have h1 := hall i hi
      rw [List.getElem?_eq_getElem (by omega)] at h1
      obtain ⟨cs',h2,h3⟩ := Option.bind_eq_some_iff.1 h1
      exact ⟨cs',_,h2,h3⟩
    obtain ⟨cs0,y0,g1,_⟩ := get 0 h0
    rw [Nat.zero_mul] at g1
    obtain ⟨hs,hat⟩ := at_of_cells g1 hz0
    obtain ⟨b,off,sp⟩ := a
    simp only [Addr.add,if_true] at hs hat
    subst hs
    refine .inr ⟨b,off,n',rfl,hat.lt,rfl,fun i hi => ?_⟩
    obtain ⟨cs',y,g1,g2⟩ := get i hi
    have g3 := (at_of_cells g1 hz0).2
    have g4 : (Addr.add ⟨b,off,none⟩ (i * sz)) = ⟨b,off + i * sz,none⟩ := by unfold Addr.add; split <;> simp_all
    rw [g4] at g3
    exact ⟨cs',y,g3,(World.cells?_some g1).2.1,g2⟩
theorem str_of {n : Nat} {v : Value} {x : DataW H × List MemPlace} (h : DataW.trod enc Tryz.prog w 0 spare held n 9 [v] = some x) : ∃ l,v = str l ∧ l.length ≤ 9223372036854775807 := by
  obtain ⟨s,e,_,hs⟩ := DataW.trod_string Tryz.underlying9 h
  simp only [List.cons.injEq,and_true] at e
  subst e
  refine ⟨s.data.toList,?_,?_⟩
  · simp [str]
  · simp only [maxLen] at hs; simpa using hs
theorem cells_is : Tryz.prog.cellsOf 9 = 1 ∧ Tryz.prog.cellsOf 3 = 1 ∧ Tryz.prog.cellsOf 4 = 1 ∧ Tryz.prog.cellsOf 24 = 1 ∧ Tryz.prog.cellsOf 25 = 1 ∧ Tryz.prog.cellsOf 35 = 5 ∧ Tryz.prog.cellsOf 37 = 7 ∧ Tryz.prog.cellsOf 90 = 2 ∧ Tryz.prog.cellsOf 27 = 2 := by
  refine ⟨?_,?_,?_,?_,?_,?_,?_,?_,?_⟩ <;> kernel_rfl
theorem exists_list {α : Type} (n : Nat) {p : Nat → α → Prop} (h : ∀ i,i < n → ∃ x,p i x) : ∃ l : List α,l.length = n ∧ ∀ i x,l[i]? = some x → p i x := by
  induction n with
  | zero => exact ⟨[],rfl,fun i x hx => by simp at hx⟩
  | succ n ih =>
    obtain ⟨l,hl,hp⟩ := ih (fun i hi => h i (by omega))
    obtain ⟨x,hx⟩ := h n (by omega)
    refine ⟨l ++ [x],by simp [hl],fun i y hy => ?_⟩
    rcases Nat.lt_or_ge i l.length with h1 | h1
    · rw [List.getElem?_append_left h1] at hy; exact hp i y hy
    · rw [List.getElem?_append_right h1] at hy
      obtain ⟨h2,h3⟩ := List.getElem?_eq_some_iff.1 hy
      simp only [List.length_singleton] at h2
      obtain rfl : i = n := by omega
      simp only [List.getElem_singleton] at h3
      subst h3
      exact hx
end
end Go.Proofs.YtdmdgkpjjpijdaaGreatDoor
namespace Go.Proofs.YtdmdgkpjjpijdaaGreatDoor
open Go Go.K Go.ChangeShapes Go.WideShapes Go.ChangeAt Go.RowKit
set_option maxRecDepth 100000
set_option linter.unusedVariables false
set_option linter.unusedSimpArgs false
set_option maxHeartbeats 2000000
theorem pow_data : (Rows.laid_internal_strconv_uint64pow10 : DataW Unit) = Lib.tabData .u64 Lib.pow10Tab := by kernel_rfl
theorem err_cells {H : Type} {enc : TypeId × Value → H} {P : Program} {w : World} {base : Nat} {sp : Nat → Bool} {held : Bool} {fuel : Nat} {t : TypeId} {ms : Array (String × TypeId)} {cs : List Value} {x : DataW H × List MemPlace} (hu : P.underlying t = some (.interface ms))
    (h : DataW.trod enc P w base sp held fuel t cs = some x) : ∃ v,cs = [v] ∧ (v = .nilIface ∨ ∃ te pe,v = .iface te pe) := by
  cases fuel with
  | zero => simp [DataW.trod] at h
  | succ fuel =>
    unfold DataW.trod at h
    rw [hu] at h
    split at h
    all_goals first
      | (rename_i e; cases e; done)
      | exact ⟨_,rfl,.inl rfl⟩
      | exact ⟨_,rfl,.inr ⟨_,_,rfl⟩⟩
      | cases h
theorem lib_of_laid {W : World} {l : List (String × DataW Unit)} (h : laidMetH Tryz.prog l W) (hp : (l.all fun x => x.2.handleName?.isNone) = true) (h1 : ("internal/strconv.uint64pow10",Rows.laid_internal_strconv_uint64pow10) ∈ l) (h2 : ("strconv.ErrSyntax",Rows.laid_strconv_ErrSyntax) ∈ l) (h3 : ("strconv.ErrRange",Rows.laid_strconv_ErrRange) ∈ l) : LibAt W := by
  rw [MakeChecks.laidMetH_plain _ _ _ hp] at h
  refine ⟨?_,?_⟩
  · obtain ⟨g,t,cs,fuel,p,hg,hty,hvar,hd⟩ := Lib.laidMet.reads h h1
    obtain rfl := Option.some.inj ((show Tryz.prog.globalNamed "internal/strconv.uint64pow10" = some 4 by kernel_rfl).symm.trans hg)
    obtain rfl := Option.some.inj ((show (Tryz.prog.globals[4]?).map (·.type) = some 181 by kernel_rfl).symm.trans hty)
    rw [pow_data] at hd
    have hu1 : Tryz.prog.underlying 181 = some (.array 20 159) := Tryz.underlying181
    have hu2 : Tryz.prog.underlying 159 = some (.int .u64) := Tryz.underlying159
    have e := Lib.cells_of_tab hu1 hu2 (by kernel_rfl) (by kernel_rfl) hd
    unfold Lib.TabIs
    rw [hvar,← e]
  · have key : ∀ (n : String) (d : DataW Unit) (g : Nat),Tryz.prog.globalNamed n = some g → (Tryz.prog.globals[g]?).map (·.type) = some 155 → (n,d) ∈ l → ∃ ev,W.cell? ⟨g,0,none⟩ = some ev ∧ (ev = .nilIface ∨ ∃ te pe,ev = .iface te pe) := by
      intro n d g hgn hgt hm
      obtain ⟨g',t,cs,fuel,p,hg,hty,hvar,hd⟩ := Lib.laidMet.reads h hm
      obtain rfl := Option.some.inj (hgn.symm.trans hg)
      obtain rfl := Option.some.inj (hgt.symm.trans hty)
      obtain ⟨v,hv,hv2⟩ := err_cells Tryz.underlying155 hd
      refine ⟨v,?_,hv2⟩
      rw [World.var?_cell hg hvar 0,← Array.getElem?_toList,hv]
      rfl
    rintro g (rfl | rfl)
    · exact key _ _ _ (by kernel_rfl) (by kernel_rfl) h2
    · exact key _ _ _ (by kernel_rfl) (by kernel_rfl) h3
end Go.Proofs.YtdmdgkpjjpijdaaGreatDoor
namespace Go.Proofs.YtdmdgkpjjpijdaaGreatDoor
open Go Go.K Go.ChangeShapes Go.WideShapes Go.ChangeAt Go.RowKit
set_option maxRecDepth 100000
set_option linter.unusedVariables false
set_option linter.unusedSimpArgs false
set_option maxHeartbeats 2000000
theorem txs_of {H : Type} {enc : TypeId × Value → H} {w : World} {spare : Nat → Bool} {held : Bool} {n : Nat} {cs : List Value} {x : DataW H × List MemPlace} (h : DataW.trod enc Tryz.prog w 0 spare held n 22 cs = some x) :
    ∃ a ls c,cs = [.slice a (List.length ls) c] ∧ ls.length ≤ c ∧ c ≤ 9223372036854775807 ∧ TxsAt w w.heap.size a ls := by
  obtain ⟨a,len,cap,rfl,hl,hc,rfl | ⟨b,off,n',rfl,hb,rfl,hall⟩⟩ := slice_at Tryz.underlying22 cells_is.1 (by omega) h
  · exact ⟨a,[],cap,rfl,hl,hc,.inl rfl⟩
  · obtain ⟨ls,hls,hp⟩ := exists_list (α := List UInt8) len (p := fun i s => s.length ≤ 9223372036854775807 ∧ At w b (off + i) [str s]) (fun i hi => by
      obtain ⟨cs',y,h1,h2,h3⟩ := hall i hi
      obtain ⟨v0,rfl⟩ : ∃ v0,cs' = [v0] := by
        match cs',h2 with
        | [v0],_ => exact ⟨v0,rfl⟩
      obtain ⟨k,rfl,hk⟩ := str_of h3
      exact ⟨k,hk,by simpa using h1⟩)
    subst hls
    exact ⟨_,ls,cap,rfl,hl,hc,.inr ⟨b,off,rfl,hb,hp⟩⟩
end Go.Proofs.YtdmdgkpjjpijdaaGreatDoor
namespace Go.Proofs.YtdmdgkpjjpijdaaGreatDoor
open Go Go.K Go.ChangeShapes Go.WideShapes Go.ChangeAt Go.RowKit
set_option maxRecDepth 100000
set_option linter.unusedVariables false
set_option linter.unusedSimpArgs false
set_option maxHeartbeats 2000000
theorem kindParses_lifted (os : Os) (started : os.Started) (H : Type) (enc : TypeId × Value → H) :
    ReturnsInHanded {} Tryz.checked os 3 .any (fun w args => (Rows.kindParsesSpec.pre enc Tryz.prog Tryz.f3 [] false w args ∧ laidMetH Tryz.prog Rows.kindParsesRow.laid w) ∧ sizedMet enc Tryz.prog Tryz.f3 (OpenSpec.ofChange Rows.kindParsesSpec) false w args)
      (Rows.kindParsesSpec.post enc Tryz.prog Tryz.f3 false true false false) := by
  refine returnsInHanded_of_change_and (C := Tryz.checked) (X := fun w _ => laidMetH Tryz.prog Rows.kindParsesRow.laid w) (fun _ _ _ hh h => h.of_heap hh) own started (by kernel_rfl) Tryz.func3
    (ChangeSpec.witness_shaped (enc := enc) (C := Tryz.checked) (os := os) (X := fun w _ => laidMetH Tryz.prog Rows.kindParsesRow.laid w) false (World.laidAll Tryz.prog os Rows.kindParsesRow.laid) #[.slice none 0 0] 8 (World.laidAll_os _ _ _) (World.shaped_of_ZipB (by kernel_rfl) (by kernel_rfl)) (by kernel_rfl) (by kernel_rfl) (by kernel_rfl)
      (by rw [MakeChecks.laidMetH_plain _ _ _ (by kernel_rfl)]; exact laidMet_laidAll _ (by kernel_rfl) (by kernel_rfl))) ?_
  intro W base args ds gs before hval0 hW _ _ hL _
  have hW' := hW
  obtain ⟨p,q,hA0,hV,rfl,hfz,hnd⟩ := hW
  have hA : DataW.TrodAll enc Tryz.prog W 0 (fun _ => true) true Tryz.f3.params.toList args.toList ds p := hA0
  rw [Tryz.params3] at hA
  obtain ⟨v0,d0,rfl,rfl,h0⟩ := trodAll_one hA
  obtain ⟨rfl,rfl⟩ := trodVars_none hV
  clear hA0
  simp only [List.append_nil] at hW'
  have h0k := h0
  obtain ⟨n0,h0⟩ := h0
  obtain ⟨sa0,ls0,sc0,e0,hl0,hc0,hn0⟩ := txs_of h0
  obtain ⟨a0,m0,c0,rfl⟩ := okWide_slice Tryz.underlying22 (hval0 0 _ _ (by rw [Tryz.params3]; rfl) rfl)
  simp only [Value.cells,List.cons.injEq,Value.slice.injEq,and_true] at e0
  obtain ⟨rfl,rfl,rfl⟩ := e0
  refine (kindParses_walk W (says_of_laid hL (by kernel_rfl) (by simp [Rows.kindParsesRow])) (lib_of_laid hL (by kernel_rfl) (by simp [Rows.kindParsesRow]) (by simp [Rows.kindParsesRow]) (by simp [Rows.kindParsesRow])) W.heap.size (Nat.le_refl _) _ ls0 _ hn0 (by omega)).mono fun e W' ⟨v,he,hsy,hv⟩ => ?_
  subst he; subst hv
  have hlt : ∀ x ∈ p,x.block < W.heap.size := fun x hx => by simpa using hW'.lt x hx
  exact ⟨_,rfl,post_of_sy (pr := []) (pa := p) (pv := []) hW' hsy (trodAll_cons_mk (shut_bool Tryz.underlying4 _) trodAll_mk0) (trodAll_mk1 (Below.trod (by kernel_rfl) (by kernel_rfl) (of_decide_eq_true (by kernel_rfl)) h0k hsy.below hlt)) rfl⟩
theorem kindParses_over : Rows.KindParsesSaid :=
  OpenClaim.holds_of_wide 3 Tryz.f3 rfl rfl rfl rfl rfl rfl rfl ⟨rfl,rfl,rfl,rfl,rfl⟩ rfl rfl rfl rfl rfl (by kernel_rfl) Tryz.func3 (by kernel_rfl)
    (of_decide_eq_true (by kernel_rfl)) (by unfold Func.isWrapper; first | (rw [if_pos (by decide +kernel)]; kernel_rfl) | (rw [if_neg (by decide +kernel)]; exact ⟨rfl,rfl⟩))
    (fun os started H enc _ => kindParses_lifted os started H enc)
theorem kindParses_card : Rows.KindParsesCardSaid :=
  Claim7.holds_tied_plain_at .later [] [.data,.data,.data,.sentinel,.sentinel,.data] true (true,"12e5775d0be9a7ba58339a37088b91ca25e5fad66a24d9ef9a1e6dcd491aad74") true
    kindParses_over (fun _ h => by cases h) (by kernel_rfl) (fun _ h => by cases h) kindParses_row_tie rfl ⟨rfl,rfl⟩ (by kernel_rfl) rfl
    (fun f fn hf hfn => by
      obtain rfl : f = 3 := Option.some.inj ((show Tryz.prog.funcNamed "colonnade/colonnadelaw03.KindParses" = some 3 by kernel_rfl).symm.trans hf) |>.symm
      obtain rfl : fn = Tryz.f3 := (Option.some.inj (Tryz.func3.symm.trans hfn)).symm
      exact ⟨by kernel_rfl,fun j t ht => by
        rw [Tryz.params3] at ht
        match j,ht with
        | 0,ht =>
          obtain rfl : t = 22 := (Option.some.inj ht).symm
          show Program.wantsStandIn _ _ = false
          kernel_rfl⟩)
    (by kernel_rfl)
#print axioms kindParses_card
end Go.Proofs.YtdmdgkpjjpijdaaGreatDoor
