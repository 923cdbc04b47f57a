/- YthdejilihaombaaDoor: KindChecks answers true: the row and its tied card. -/
import Derived.Test.YthdejilihaombaaDoorW17
import Derived.Test.YthdejilihaombaaDoorW28
import Derived.Carry
namespace Go.Proofs.YthdejilihaombaaDoor
open Go Go.K Go.ChangeShapes Go.WideShapes Go.ChangeAt Go.RowKit
set_option maxRecDepth 100000
set_option linter.unusedVariables false
set_option linter.unusedSimpArgs false
set_option maxHeartbeats 2000000
theorem kindChecks_met (os : Os) (args : Array Value) : laidMetH Tryd.prog Rows.kindChecksRow.laid ((World.doorLaid Tryd.prog 400 os).forCall (fun _ _ => 0) ⟨#[], args, []⟩).memory :=
  laidMetH_of_parts3 (fuel := 8) (laidMet_of_run' 8 (by kernel_rfl) (by kernel_rfl)) (by kernel_rfl) (by kernel_rfl)
theorem kindChecks_lifted (os : Os) (started : os.Started) (H : Type) (enc : TypeId × Value → H) :
    ReturnsInHanded {} Tryd.checked os 6 .any (fun w args => (Rows.kindChecksSpec.pre enc Tryd.prog Tryd.f6 [] false w args ∧ laidMetH Tryd.prog Rows.kindChecksRow.laid w) ∧ sizedMet enc Tryd.prog Tryd.f6 (OpenSpec.ofChange Rows.kindChecksSpec) false w args)
      (Rows.kindChecksSpec.post enc Tryd.prog Tryd.f6 false true false false) := by
  refine returnsInHanded_of_change_and (C := Tryd.checked) (X := fun w _ => laidMetH Tryd.prog Rows.kindChecksRow.laid w) (fun _ _ _ hh h => h.of_heap hh) own started (by kernel_rfl) Tryd.func6
    (ChangeSpec.witness_shaped (enc := enc) (C := Tryd.checked) (os := os) (X := fun w _ => laidMetH Tryd.prog Rows.kindChecksRow.laid w) false (World.doorLaid Tryd.prog 400 os) #[.slice none 0 0] 8 rfl (World.shaped_of_RefB (by kernel_rfl) (by kernel_rfl)) (by kernel_rfl) (by kernel_rfl) (by kernel_rfl) (kindChecks_met os _)) ?_
  intro W base args ds gs before hval0 hW _ _ hL _
  have hW' := hW
  obtain ⟨p, q, hA0, hV, rfl, hfz, hnd⟩ := hW
  have hA : DataW.TrodAll enc Tryd.prog W 0 (fun _ => true) true Tryd.f6.params.toList args.toList ds p := hA0
  rw [Tryd.params6] at hA
  obtain ⟨v0, d0, rfl, rfl, h0⟩ := trodAll_one hA
  obtain ⟨rfl, rfl⟩ := trodVars_none hV
  clear hA0
  simp only [List.append_nil] at hW'
  have h0k := h0
  obtain ⟨n0, h0⟩ := h0
  obtain ⟨a, ls, c, e0, hl, hc, hsch⟩ := schemas_of h0
  obtain ⟨a1, n1, c1, rfl⟩ := okWide_slice Tryd.underlying43 (hval0 0 _ _ (by rw [Tryd.params6]; rfl) rfl)
  simp only [Value.cells, List.cons.injEq, Value.slice.injEq, and_true] at e0
  obtain ⟨rfl, rfl, rfl⟩ := e0
  refine (kindChecks_walk W (says_of_laid hL (by kernel_rfl) (by simp [Rows.kindChecksRow])) ls _ _ W.heap.size (Nat.le_refl _) hsch (by omega)).mono fun e W' ⟨v, he, hsy, hv⟩ => ?_
  subst he; subst hv
  have hlt : ∀ x ∈ p, x.block < W.heap.size := fun x hx => by simpa using hW'.lt x hx
  exact ⟨_, rfl, post_of_sy (pr := []) (pa := p) (pv := []) hW' hsy (trodAll_cons_mk (shut_bool Tryd.underlying4 _) trodAll_mk0) (trodAll_mk1 (Below.trod (by kernel_rfl) (by kernel_rfl) (of_decide_eq_true (by kernel_rfl)) h0k hsy.below hlt)) rfl⟩
theorem kindChecks_over : Rows.KindChecksSaid :=
  OpenClaim.holds_of_wide 6 Tryd.f6 rfl rfl rfl rfl rfl rfl rfl ⟨rfl, rfl, rfl, rfl, rfl⟩ rfl rfl rfl rfl rfl (by kernel_rfl) Tryd.func6 (by kernel_rfl)
    (of_decide_eq_true (by kernel_rfl)) (by unfold Func.isWrapper; first | (rw [if_pos (by decide +kernel)]; kernel_rfl) | (rw [if_neg (by decide +kernel)]; exact ⟨rfl, rfl⟩))
    (fun os started H enc _ => kindChecks_lifted os started H enc)
theorem kindChecks_card : Rows.KindChecksCardSaid :=
  Claim7.holds_tied_plain_at .later [] [.data, .data, .data, .data] true (true, "7e35798ec860282136be698cd4fc24ae50187b4a752d23608082632d3ee5a7ab") false
    kindChecks_over (fun _ h => by cases h) (by kernel_rfl) (fun _ h => by cases h) kindChecks_row_tie rfl ⟨rfl, rfl⟩ (by kernel_rfl) rfl
    (fun f fn hf hfn => by
      obtain rfl : f = 6 := Option.some.inj ((show Tryd.prog.funcNamed "colonnade/colonnadelaw03.KindChecks" = some 6 by kernel_rfl).symm.trans hf) |>.symm
      obtain rfl : fn = Tryd.f6 := (Option.some.inj (Tryd.func6.symm.trans hfn)).symm
      exact ⟨by kernel_rfl, fun j t ht => by
        rw [Tryd.params6] at ht
        match j, ht with
        | 0, ht =>
          obtain rfl : t = 43 := (Option.some.inj ht).symm
          show Program.wantsStandIn _ _ = false
          kernel_rfl⟩)
    (by kernel_rfl)
#print axioms kindChecks_card
end Go.Proofs.YthdejilihaombaaDoor
