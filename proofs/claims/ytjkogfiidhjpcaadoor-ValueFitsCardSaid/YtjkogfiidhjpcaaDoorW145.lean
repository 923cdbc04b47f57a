/- YtjkogfiidhjpcaaDoor: ValueFits answers true: the row and its tied card. -/
import Derived.Test.YtjkogfiidhjpcaaDoorW143
import Derived.Test.YtjkogfiidhjpcaaDoorW94
import Derived.Lay
namespace Go.Proofs.YtjkogfiidhjpcaaDoor
open Go Go.K Go.ChangeShapes Go.WideShapes Go.ChangeAt Go.RowKit
set_option maxRecDepth 100000
set_option linter.unusedVariables false
set_option linter.unusedSimpArgs false
set_option maxHeartbeats 2000000
theorem valueFits_lifted (os : Os) (started : os.Started) (H : Type) (enc : TypeId × Value → H) :
    ReturnsInHanded {} Tryd.checked os 5 .any (fun w args => (Rows.valueFitsSpec.pre enc Tryd.prog Tryd.f5 [] false w args ∧ laidMetH Tryd.prog Rows.valueFitsRow.laid w) ∧ sizedMet enc Tryd.prog Tryd.f5 (OpenSpec.ofChange Rows.valueFitsSpec) false w args)
      (Rows.valueFitsSpec.post enc Tryd.prog Tryd.f5 false true false false) := by
  refine returnsInHanded_of_change_and (C := Tryd.checked) (X := fun w _ => laidMetH Tryd.prog Rows.valueFitsRow.laid w) (fun _ _ _ hh h => h.of_heap hh) own started (by kernel_rfl) Tryd.func5
    (ChangeSpec.witness_shaped (enc := enc) (C := Tryd.checked) (os := os) (X := fun w _ => laidMetH Tryd.prog Rows.valueFitsRow.laid w) false (World.laidAll Tryd.prog os Rows.valueFitsRow.laid) #[.agg #[str [], .bool false, i64 0, i64 0, i64 0, i64 0, .slice none 0 0], .agg #[.bool false, i64 0, str [], .slice none 0 0]] 8 (World.laidAll_os _ _ _) (World.shaped_of_ZipB (by kernel_rfl) (by kernel_rfl)) (by kernel_rfl) (by kernel_rfl) (by kernel_rfl)
      (by rw [MakeChecks.laidMetH_plain _ _ _ (by kernel_rfl)]; exact laidMet_laidAll _ (by kernel_rfl) (by kernel_rfl))) ?_
  intro W base args ds gs before hval0 hW _ _ hL _
  have hW' := hW
  obtain ⟨p, q, hA0, hV, rfl, hfz, hnd⟩ := hW
  have hA : DataW.TrodAll enc Tryd.prog W 0 (fun _ => true) true Tryd.f5.params.toList args.toList ds p := hA0
  rw [Tryd.params5] at hA
  obtain ⟨v0, v1, d0, d1, p0, p1, hargs, rfl, rfl, h0, h1⟩ := trodAll_two hA
  subst hargs
  obtain ⟨rfl, rfl⟩ := trodVars_none hV
  clear hA0 hA
  simp only [List.append_nil] at hW'
  have h0k := h0
  have h1k := h1
  obtain ⟨n0, h0⟩ := h0
  obtain ⟨n1, h1⟩ := h1
  obtain ⟨f, fa, fc, e0, hF, hfn⟩ := field_in h0
  obtain ⟨x, xa, xc, e1, hX⟩ := value_of h1
  obtain ⟨cs0, rfl, _⟩ := okWide_struct Tryd.underlying26 (hval0 0 _ _ (by rw [Tryd.params5]; rfl) rfl)
  obtain ⟨cs1, rfl, _⟩ := okWide_struct Tryd.underlying29 (hval0 1 _ _ (by rw [Tryd.params5]; rfl) rfl)
  obtain rfl : cs0 = (f.cells fa fc).toArray := by cases cs0; simpa [Value.cells] using e0
  obtain rfl : cs1 = (x.cells xa xc).toArray := by cases cs1; simpa [Value.cells] using e1
  refine (valueFits_walk W (says_of_laid hL (by kernel_rfl) (by simp [Rows.valueFitsRow])) (tabs_of_laid hL (by kernel_rfl) (by simp [Rows.valueFitsRow]) (by simp [Rows.valueFitsRow])) W.heap.size (Nat.le_refl _) f x fa xa fc xc hF hfn hX).mono fun e W' ⟨v, he, hsy, hv⟩ => ?_
  subst he; subst hv
  have hlt : ∀ x ∈ p0 ++ p1, x.block < W.heap.size := fun x hx => by simpa using hW'.lt x hx
  have hlt0 : ∀ x ∈ p0, x.block < W.heap.size := fun x hx => hlt x (by simp [hx])
  have hlt1 : ∀ x ∈ p1, x.block < W.heap.size := fun x hx => hlt x (by simp [hx])
  exact ⟨_, rfl, post_of_sy (pr := []) (pa := p0 ++ p1) (pv := []) hW' hsy (trodAll_cons_mk (shut_bool Tryd.underlying4 _) trodAll_mk0) (trodAll_mk2 (Below.trod (by kernel_rfl) (by kernel_rfl) (of_decide_eq_true (by kernel_rfl)) h0k hsy.below hlt0) (Below.trod (by kernel_rfl) (by kernel_rfl) (of_decide_eq_true (by kernel_rfl)) h1k hsy.below hlt1)) rfl⟩
theorem valueFits_over : Rows.ValueFitsSaid :=
  OpenClaim.holds_of_wide 5 Tryd.f5 rfl rfl rfl rfl rfl rfl rfl ⟨rfl, rfl, rfl, rfl, rfl⟩ rfl rfl rfl rfl rfl (by kernel_rfl) Tryd.func5 (by kernel_rfl)
    (of_decide_eq_true (by kernel_rfl)) (by unfold Func.isWrapper; first | (rw [if_pos (by decide +kernel)]; kernel_rfl) | (rw [if_neg (by decide +kernel)]; exact ⟨rfl, rfl⟩))
    (fun os started H enc _ => valueFits_lifted os started H enc)
theorem valueFits_card : Rows.ValueFitsCardSaid :=
  Claim7.holds_tied_plain_at .later [] [.data, .data, .pinned] true (true, "ddcb64ab9b12daf404798ac08523135f170debcd6ba636b1e584a70bbeb5c039") false
    valueFits_over (fun _ h => by cases h) (by kernel_rfl) (fun _ h => by cases h) valueFits_row_tie rfl ⟨rfl, rfl⟩ (by kernel_rfl) rfl
    (fun f fn hf hfn => by
      obtain rfl : f = 5 := Option.some.inj ((show Tryd.prog.funcNamed "colonnade/colonnadelaw04.ValueFits" = some 5 by kernel_rfl).symm.trans hf) |>.symm
      obtain rfl : fn = Tryd.f5 := (Option.some.inj (Tryd.func5.symm.trans hfn)).symm
      exact ⟨by kernel_rfl, fun j t ht => by
        rw [Tryd.params5] at ht
        match j, ht with
        | 0, ht =>
          obtain rfl : t = 26 := (Option.some.inj ht).symm
          show Program.wantsStandIn _ _ = false
          kernel_rfl
        | 1, ht =>
          obtain rfl : t = 29 := (Option.some.inj ht).symm
          show Program.wantsStandIn _ _ = false
          kernel_rfl⟩)
    (by kernel_rfl)
#print axioms valueFits_card
end Go.Proofs.YtjkogfiidhjpcaaDoor
