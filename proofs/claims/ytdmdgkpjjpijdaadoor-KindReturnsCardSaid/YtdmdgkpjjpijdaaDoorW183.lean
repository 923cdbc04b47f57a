/- YtdmdgkpjjpijdaaDoor: KindReturns answers true: the row and its tied card. -/
import Derived.Test.YtdmdgkpjjpijdaaDoorW180
import Derived.Test.YtdmdgkpjjpijdaaDoorW181
import Derived.Carry
import Derived.Lay
namespace Go.Proofs.YtdmdgkpjjpijdaaDoor
open Go Go.K Go.ChangeShapes Go.WideShapes Go.ChangeAt Go.RowKit
set_option maxRecDepth 100000
set_option linter.unusedVariables false
set_option linter.unusedSimpArgs false
set_option maxHeartbeats 2000000
theorem kindReturns_lifted (os : Os) (started : os.Started) (H : Type) (enc : TypeId × Value → H) :
    ReturnsInHanded {} Tryd.checked os 4 .any (fun w args => (Rows.kindReturnsSpec.pre enc Tryd.prog Tryd.f4 [] false w args ∧ laidMetH Tryd.prog Rows.kindReturnsRow.laid w) ∧ sizedMet enc Tryd.prog Tryd.f4 (OpenSpec.ofChange Rows.kindReturnsSpec) false w args)
      (Rows.kindReturnsSpec.post enc Tryd.prog Tryd.f4 false true false false) := by
  refine returnsInHanded_of_change_and (C := Tryd.checked) (X := fun w _ => laidMetH Tryd.prog Rows.kindReturnsRow.laid w) (fun _ _ _ hh h => h.of_heap hh) own started (by kernel_rfl) Tryd.func4
    (ChangeSpec.witness_shaped (enc := enc) (C := Tryd.checked) (os := os) (X := fun w _ => laidMetH Tryd.prog Rows.kindReturnsRow.laid w) false (World.laidAll Tryd.prog os Rows.kindReturnsRow.laid) #[.agg #[.slice none 0 0, .slice none 0 0]] 8 (World.laidAll_os _ _ _) (World.shaped_of_ZipB (by kernel_rfl) (by kernel_rfl)) (by kernel_rfl) (by kernel_rfl) (by kernel_rfl)
      (by rw [MakeChecks.laidMetH_plain _ _ _ (by kernel_rfl)]; exact laidMet_laidAll _ (by kernel_rfl) (by kernel_rfl))) ?_
  intro W base args ds gs before hval0 hW _ _ hL _
  have hW' := hW
  obtain ⟨p, q, hA0, hV, rfl, hfz, hnd⟩ := hW
  have hA : DataW.TrodAll enc Tryd.prog W 0 (fun _ => true) true Tryd.f4.params.toList args.toList ds p := hA0
  rw [Tryd.params4] at hA
  obtain ⟨v0, d0, rfl, rfl, h0⟩ := trodAll_one hA
  obtain ⟨rfl, rfl⟩ := trodVars_none hV
  clear hA0
  simp only [List.append_nil] at hW'
  have h0k := h0
  obtain ⟨n0, h0⟩ := h0
  obtain ⟨⟨l0, nt0⟩, fa0, fc0, na0, nc0, e0, hs0⟩ := schema_of h0
  obtain ⟨cs0, rfl, _⟩ := okWide_struct Tryd.underlying26 (hval0 0 _ _ (by rw [Tryd.params4]; rfl) rfl)
  obtain rfl : cs0 = #[.slice fa0 l0.length fc0, .slice na0 nt0.length nc0] := by cases cs0; simpa [Value.cells] using e0
  refine (kindReturns_walk W (says_of_laid hL (by kernel_rfl) (by simp [Rows.kindReturnsRow])) (lib_of_laid hL (by kernel_rfl) (by simp [Rows.kindReturnsRow]) (by simp [Rows.kindReturnsRow]) (by simp [Rows.kindReturnsRow])) W.heap.size (Nat.le_refl _) fa0 l0 fc0 na0 nt0 nc0 hs0).mono fun e W' ⟨v, he, hsy, hv⟩ => ?_
  subst he; subst hv
  have hlt : ∀ x ∈ p, x.block < W.heap.size := fun x hx => by simpa using hW'.lt x hx
  exact ⟨_, rfl, post_of_sy (pr := []) (pa := p) (pv := []) hW' hsy (trodAll_cons_mk (shut_bool Tryd.underlying4 _) trodAll_mk0) (trodAll_mk1 (Below.trod (by kernel_rfl) (by kernel_rfl) (of_decide_eq_true (by kernel_rfl)) h0k hsy.below hlt)) rfl⟩
theorem kindReturns_over : Rows.KindReturnsSaid :=
  OpenClaim.holds_of_wide 4 Tryd.f4 rfl rfl rfl rfl rfl rfl rfl ⟨rfl, rfl, rfl, rfl, rfl⟩ rfl rfl rfl rfl rfl (by kernel_rfl) Tryd.func4 (by kernel_rfl)
    (of_decide_eq_true (by kernel_rfl)) (by unfold Func.isWrapper; first | (rw [if_pos (by decide +kernel)]; kernel_rfl) | (rw [if_neg (by decide +kernel)]; exact ⟨rfl, rfl⟩))
    (fun os started H enc _ => kindReturns_lifted os started H enc)
theorem kindReturns_card : Rows.KindReturnsCardSaid :=
  Claim7.holds_tied_plain_at .later [] [.data, .data, .data, .sentinel, .sentinel, .data] true (true, "bd9eef606ee950d25123ae2d8c07f3850913c4842cc6661856001a715d425ab1") true
    kindReturns_over (fun _ h => by cases h) (by kernel_rfl) (fun _ h => by cases h) kindReturns_row_tie rfl ⟨rfl, rfl⟩ (by kernel_rfl) rfl
    (fun f fn hf hfn => by
      obtain rfl : f = 4 := Option.some.inj ((show Tryd.prog.funcNamed "colonnade/colonnadelaw03.KindReturns" = some 4 by kernel_rfl).symm.trans hf) |>.symm
      obtain rfl : fn = Tryd.f4 := (Option.some.inj (Tryd.func4.symm.trans hfn)).symm
      exact ⟨by kernel_rfl, fun j t ht => by
        rw [Tryd.params4] at ht
        match j, ht with
        | 0, ht =>
          obtain rfl : t = 26 := (Option.some.inj ht).symm
          show Program.wantsStandIn _ _ = false
          kernel_rfl⟩)
    (by kernel_rfl)
#print axioms kindReturns_card
end Go.Proofs.YtdmdgkpjjpijdaaDoor
