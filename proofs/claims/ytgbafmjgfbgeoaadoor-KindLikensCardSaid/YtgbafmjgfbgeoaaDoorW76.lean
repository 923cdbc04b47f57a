/- YtgbafmjgfbgeoaaDoor: KindLikens answers true: the row and its tied card. -/
import Derived.Test.YtgbafmjgfbgeoaaDoorW17
import Derived.Test.YtgbafmjgfbgeoaaDoorW28
import Derived.Test.YtgbafmjgfbgeoaaDoorW75
import Derived.Carry
namespace Go.Proofs.YtgbafmjgfbgeoaaDoor
open Go Go.K Go.ChangeShapes Go.WideShapes Go.ChangeAt Go.RowKit
set_option maxRecDepth 100000
set_option linter.unusedVariables false
set_option linter.unusedSimpArgs false
set_option maxHeartbeats 2000000
theorem fd_of {H : Type} {enc : TypeId × Value → H} {w : World} {spare : Nat → Bool} {held : Bool} {n : Nat} {cs : List Value} {x : DataW H × List MemPlace} (h : DataW.trod enc Tryd.prog w 0 spare held n 38 cs = some x) :
    ∃ f a c, cs = Fld.cells f a c ∧ FdAt w w.heap.size f a c := by
  obtain ⟨nm, nl, k, wd, id, ix, v, n', y, rfl, hnm, rfl, hv⟩ := field_of h
  obtain ⟨a, l, c, hc, h1, h2, h3⟩ := fields_of n' hv
  simp only [List.cons.injEq, and_true] at hc
  subst hc
  exact ⟨.mk nm nl k wd id ix l, a, c, rfl, ⟨h3, h1, h2⟩, hnm⟩
theorem kindLikens_met (os : Os) (args : Array Value) : laidMetH Tryd.prog Rows.kindLikensRow.laid ((World.doorLaid Tryd.prog 400 os).forCall (fun _ _ => 0) ⟨#[], args, []⟩).memory :=
  laidMetH_of_parts3 (fuel := 8) (laidMet_of_run' 8 (by kernel_rfl) (by kernel_rfl)) (by kernel_rfl) (by kernel_rfl)
theorem kindLikens_lifted (os : Os) (started : os.Started) (H : Type) (enc : TypeId × Value → H) :
    ReturnsInHanded {} Tryd.checked os 6 .any (fun w args => (Rows.kindLikensSpec.pre enc Tryd.prog Tryd.f6 [] false w args ∧ laidMetH Tryd.prog Rows.kindLikensRow.laid w) ∧ sizedMet enc Tryd.prog Tryd.f6 (OpenSpec.ofChange Rows.kindLikensSpec) false w args)
      (Rows.kindLikensSpec.post enc Tryd.prog Tryd.f6 false true false false) := by
  refine returnsInHanded_of_change_and (C := Tryd.checked) (X := fun w _ => laidMetH Tryd.prog Rows.kindLikensRow.laid w) (fun _ _ _ hh h => h.of_heap hh) own started (by kernel_rfl) Tryd.func6
    (ChangeSpec.witness_shaped (enc := enc) (C := Tryd.checked) (os := os) (X := fun w _ => laidMetH Tryd.prog Rows.kindLikensRow.laid w) false (World.doorLaid Tryd.prog 400 os) #[.agg #[.string ⟨#[]⟩, .bool false, .int .i64 0, .int .i64 0, .int .i64 0, .int .i64 0, .slice none 0 0], .agg #[.string ⟨#[]⟩, .bool false, .int .i64 0, .int .i64 0, .int .i64 0, .int .i64 0, .slice none 0 0]] 8 rfl (World.shaped_of_RefB (by kernel_rfl) (by kernel_rfl)) (by kernel_rfl) (by kernel_rfl) (by kernel_rfl) (kindLikens_met os _)) ?_
  intro W base args ds gs before hval0 hW _ _ hL _
  have hW' := hW
  obtain ⟨p, q, hA0, hV, rfl, hfz, hnd⟩ := hW
  have hA : DataW.TrodAll enc Tryd.prog W 0 (fun _ => true) true Tryd.f6.params.toList args.toList ds p := hA0
  rw [Tryd.params6] at hA
  obtain ⟨v0, v1, d0, d1, p0, p1, hargs, rfl, rfl, h0, h1⟩ := trodAll_two hA
  subst hargs
  obtain ⟨rfl, rfl⟩ := trodVars_none hV
  clear hA0 hA
  simp only [List.append_nil] at hW'
  have h0k := h0
  have h1k := h1
  obtain ⟨n0, h0⟩ := h0
  obtain ⟨n1, h1⟩ := h1
  obtain ⟨f, fa, fc, e0, hf⟩ := fd_of h0
  obtain ⟨g, ga, gc, e1, hg⟩ := fd_of h1
  obtain ⟨cs0, rfl, _⟩ := okWide_struct Tryd.underlying38 (hval0 0 _ _ (by rw [Tryd.params6]; rfl) rfl)
  obtain ⟨cs1, rfl, _⟩ := okWide_struct Tryd.underlying38 (hval0 1 _ _ (by rw [Tryd.params6]; rfl) rfl)
  obtain rfl : cs0 = (f.cells fa fc).toArray := by cases cs0; simpa [Value.cells] using e0
  obtain rfl : cs1 = (g.cells ga gc).toArray := by cases cs1; simpa [Value.cells] using e1
  refine (kindLikens_walk W (says_of_laid hL (by kernel_rfl) (by simp [Rows.kindLikensRow])) W.heap.size (Nat.le_refl _) f g fa ga fc gc hf hg).mono fun e W' ⟨v, he, hsy, hv⟩ => ?_
  subst he; subst hv
  have hlt : ∀ x ∈ p0 ++ p1, x.block < W.heap.size := fun x hx => by simpa using hW'.lt x hx
  have hlt0 : ∀ x ∈ p0, x.block < W.heap.size := fun x hx => hlt x (by simp [hx])
  have hlt1 : ∀ x ∈ p1, x.block < W.heap.size := fun x hx => hlt x (by simp [hx])
  exact ⟨_, rfl, post_of_sy (pr := []) (pa := p0 ++ p1) (pv := []) hW' hsy (trodAll_cons_mk (shut_bool Tryd.underlying4 _) trodAll_mk0) (trodAll_mk2 (Below.trod (by kernel_rfl) (by kernel_rfl) (of_decide_eq_true (by kernel_rfl)) h0k hsy.below hlt0) (Below.trod (by kernel_rfl) (by kernel_rfl) (of_decide_eq_true (by kernel_rfl)) h1k hsy.below hlt1)) rfl⟩
theorem kindLikens_over : Rows.KindLikensSaid :=
  OpenClaim.holds_of_wide 6 Tryd.f6 rfl rfl rfl rfl rfl rfl rfl ⟨rfl, rfl, rfl, rfl, rfl⟩ rfl rfl rfl rfl rfl (by kernel_rfl) Tryd.func6 (by kernel_rfl)
    (of_decide_eq_true (by kernel_rfl)) (by unfold Func.isWrapper; first | (rw [if_pos (by decide +kernel)]; kernel_rfl) | (rw [if_neg (by decide +kernel)]; exact ⟨rfl, rfl⟩))
    (fun os started H enc _ => kindLikens_lifted os started H enc)
theorem kindLikens_card : Rows.KindLikensCardSaid :=
  Claim7.holds_tied_plain_at .later [] [.data, .data, .data, .data] true (true, "64e1d29137e5a844843c0a94cec11e763b51a9b2d7558ebf1c83343453fc3316") false
    kindLikens_over (fun _ h => by cases h) (by kernel_rfl) (fun _ h => by cases h) kindLikens_row_tie rfl ⟨rfl, rfl⟩ (by kernel_rfl) rfl
    (fun f fn hf hfn => by
      obtain rfl : f = 6 := Option.some.inj ((show Tryd.prog.funcNamed "colonnade/colonnadelaw03.KindLikens" = some 6 by kernel_rfl).symm.trans hf) |>.symm
      obtain rfl : fn = Tryd.f6 := (Option.some.inj (Tryd.func6.symm.trans hfn)).symm
      exact ⟨by kernel_rfl, fun j t ht => by
        rw [Tryd.params6] at ht
        match j, ht with
        | 0, ht =>
          obtain rfl : t = 38 := (Option.some.inj ht).symm
          show Program.wantsStandIn _ _ = false
          kernel_rfl
        | 1, ht =>
          obtain rfl : t = 38 := (Option.some.inj ht).symm
          show Program.wantsStandIn _ _ = false
          kernel_rfl⟩)
    (by kernel_rfl)
#print axioms kindLikens_card
end Go.Proofs.YtgbafmjgfbgeoaaDoor
