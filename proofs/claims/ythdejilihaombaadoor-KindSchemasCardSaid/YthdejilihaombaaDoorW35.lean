/- YthdejilihaombaaDoor: KindSchemas answers true: the row and its tied card. -/
import Derived.Test.YthdejilihaombaaDoorW17
import Derived.Test.YthdejilihaombaaDoorW28
import Derived.Test.YthdejilihaombaaDoorW34
import Derived.Carry
namespace Go.Proofs.YthdejilihaombaaDoor
open Go Go.K Go.ChangeShapes Go.WideShapes Go.ChangeAt Go.RowKit
set_option maxRecDepth 100000
set_option linter.unusedVariables false
set_option linter.unusedSimpArgs false
set_option maxHeartbeats 2000000
theorem strs_of {H : Type} {enc : TypeId × Value → H} {w : World} {spare : Nat → Bool} {held : Bool} {n : Nat} {cs : List Value} {x : DataW H × List MemPlace} (h : DataW.trod enc Tryd.prog w 0 spare held n 57 cs = some x) :
    ∃ a ls c, cs = [.slice a (List.length ls) c] ∧ ls.length ≤ c ∧ c ≤ 9223372036854775807 ∧ StrsAt w w.heap.size a ls := by
  obtain ⟨a, len, cap, rfl, hl, hc, rfl | ⟨b, off, n', rfl, hb, rfl, hall⟩⟩ := slice_at Tryd.underlying57 cells_is.1 (by omega) h
  · exact ⟨a, [], cap, rfl, hl, hc, .inl rfl⟩
  · obtain ⟨ls, hls, hp⟩ := exists_list (α := List UInt8) len (p := fun i s => At w b (off + i) [str s]) (fun i hi => by
      obtain ⟨cs', y, h1, h2, h3⟩ := hall i hi
      obtain ⟨v0, rfl⟩ : ∃ v0, cs' = [v0] := by
        match cs', h2 with
        | [v0], _ => exact ⟨v0, rfl⟩
      obtain ⟨k, rfl, hk⟩ := str_of h3
      exact ⟨k, by simpa using h1⟩)
    subst hls
    exact ⟨_, ls, cap, rfl, hl, hc, .inr ⟨b, off, rfl, hb, hp⟩⟩
theorem kindSchemas_met (os : Os) (args : Array Value) : laidMetH Tryd.prog Rows.kindSchemasRow.laid ((World.doorLaid Tryd.prog 400 os).forCall (fun _ _ => 0) ⟨#[], args, []⟩).memory :=
  laidMetH_of_parts3 (fuel := 8) (laidMet_of_run' 8 (by kernel_rfl) (by kernel_rfl)) (by kernel_rfl) (by kernel_rfl)
theorem kindSchemas_lifted (os : Os) (started : os.Started) (H : Type) (enc : TypeId × Value → H) :
    ReturnsInHanded {} Tryd.checked os 8 .any (fun w args => (Rows.kindSchemasSpec.pre enc Tryd.prog Tryd.f8 [] false w args ∧ laidMetH Tryd.prog Rows.kindSchemasRow.laid w) ∧ sizedMet enc Tryd.prog Tryd.f8 (OpenSpec.ofChange Rows.kindSchemasSpec) false w args)
      (Rows.kindSchemasSpec.post enc Tryd.prog Tryd.f8 false true false false) := by
  refine returnsInHanded_of_change_and (C := Tryd.checked) (X := fun w _ => laidMetH Tryd.prog Rows.kindSchemasRow.laid w) (fun _ _ _ hh h => h.of_heap hh) own started (by kernel_rfl) Tryd.func8
    (ChangeSpec.witness_shaped (enc := enc) (C := Tryd.checked) (os := os) (X := fun w _ => laidMetH Tryd.prog Rows.kindSchemasRow.laid w) false (World.doorLaid Tryd.prog 400 os) #[.agg #[.slice none 0 0, .slice none 0 0], .agg #[.slice none 0 0, .slice none 0 0], .slice none 0 0] 8 rfl (World.shaped_of_RefB (by kernel_rfl) (by kernel_rfl)) (by kernel_rfl) (by kernel_rfl) (by kernel_rfl) (kindSchemas_met os _)) ?_
  intro W base args ds gs before hval0 hW _ _ hL _
  have hW' := hW
  obtain ⟨p, q, hA0, hV, rfl, hfz, hnd⟩ := hW
  have hA : DataW.TrodAll enc Tryd.prog W 0 (fun _ => true) true Tryd.f8.params.toList args.toList ds p := hA0
  rw [Tryd.params8] at hA
  obtain ⟨v0, v1, v2, d0, d1, d2, p0, p1, p2, hargs, rfl, rfl, h0, h1, h2⟩ := trodAll_three hA
  subst hargs
  obtain ⟨rfl, rfl⟩ := trodVars_none hV
  clear hA0 hA
  simp only [List.append_nil] at hW'
  have h0k := h0
  have h1k := h1
  have h2k := h2
  obtain ⟨n0, h0⟩ := h0
  obtain ⟨n1, h1⟩ := h1
  obtain ⟨n2, h2⟩ := h2
  obtain ⟨⟨l, nt⟩, fa, fc, na, nc, e0, hs0⟩ := schema_of h0
  obtain ⟨⟨m, nt'⟩, fa', fc', na', nc', e1, hs1⟩ := schema_of h1
  obtain ⟨sa, ns, sc, e2, hl, hc, hn⟩ := strs_of h2
  obtain ⟨cs0, rfl, _⟩ := okWide_struct Tryd.underlying46 (hval0 0 _ _ (by rw [Tryd.params8]; rfl) rfl)
  obtain ⟨cs1, rfl, _⟩ := okWide_struct Tryd.underlying46 (hval0 1 _ _ (by rw [Tryd.params8]; rfl) rfl)
  obtain ⟨a2, n2', c2, rfl⟩ := okWide_slice Tryd.underlying57 (hval0 2 _ _ (by rw [Tryd.params8]; rfl) rfl)
  obtain rfl : cs0 = #[.slice fa l.length fc, .slice na nt.length nc] := by cases cs0; simpa [Value.cells] using e0
  obtain rfl : cs1 = #[.slice fa' m.length fc', .slice na' nt'.length nc'] := by cases cs1; simpa [Value.cells] using e1
  simp only [Value.cells, List.cons.injEq, Value.slice.injEq, and_true] at e2
  obtain ⟨rfl, rfl, rfl⟩ := e2
  refine (kindSchemas_walk W (says_of_laid hL (by kernel_rfl) (by simp [Rows.kindSchemasRow])) W.heap.size (Nat.le_refl _) fa l fc na nt nc hs0 fa' m fc' na' nt' nc' hs1 _ ns _ hn (by omega)).mono fun e W' ⟨v, he, hsy, hv⟩ => ?_
  subst he; subst hv
  have hlt : ∀ x ∈ p0 ++ p1 ++ p2, x.block < W.heap.size := fun x hx => by simpa using hW'.lt x hx
  have hlt0 : ∀ x ∈ p0, x.block < W.heap.size := fun x hx => hlt x (by simp [hx])
  have hlt1 : ∀ x ∈ p1, x.block < W.heap.size := fun x hx => hlt x (by simp [hx])
  have hlt2 : ∀ x ∈ p2, x.block < W.heap.size := fun x hx => hlt x (by simp [hx])
  exact ⟨_, rfl, post_of_sy (pr := []) (pa := p0 ++ (p1 ++ p2)) (pv := []) hW' hsy (trodAll_cons_mk (shut_bool Tryd.underlying4 _) trodAll_mk0) (trodAll_mk3 (Below.trod (by kernel_rfl) (by kernel_rfl) (of_decide_eq_true (by kernel_rfl)) h0k hsy.below hlt0) (Below.trod (by kernel_rfl) (by kernel_rfl) (of_decide_eq_true (by kernel_rfl)) h1k hsy.below hlt1) (Below.trod (by kernel_rfl) (by kernel_rfl) (of_decide_eq_true (by kernel_rfl)) h2k hsy.below hlt2)) rfl⟩
theorem kindSchemas_over : Rows.KindSchemasSaid :=
  OpenClaim.holds_of_wide 8 Tryd.f8 rfl rfl rfl rfl rfl rfl rfl ⟨rfl, rfl, rfl, rfl, rfl⟩ rfl rfl rfl rfl rfl (by kernel_rfl) Tryd.func8 (by kernel_rfl)
    (of_decide_eq_true (by kernel_rfl)) (by unfold Func.isWrapper; first | (rw [if_pos (by decide +kernel)]; kernel_rfl) | (rw [if_neg (by decide +kernel)]; exact ⟨rfl, rfl⟩))
    (fun os started H enc _ => kindSchemas_lifted os started H enc)
theorem kindSchemas_card : Rows.KindSchemasCardSaid :=
  Claim7.holds_tied_plain_at .later [] [.data, .data, .data, .data] true (true, "7e35798ec860282136be698cd4fc24ae50187b4a752d23608082632d3ee5a7ab") false
    kindSchemas_over (fun _ h => by cases h) (by kernel_rfl) (fun _ h => by cases h) kindSchemas_row_tie rfl ⟨rfl, rfl⟩ (by kernel_rfl) rfl
    (fun f fn hf hfn => by
      obtain rfl : f = 8 := Option.some.inj ((show Tryd.prog.funcNamed "colonnade/colonnadelaw03.KindSchemas" = some 8 by kernel_rfl).symm.trans hf) |>.symm
      obtain rfl : fn = Tryd.f8 := (Option.some.inj (Tryd.func8.symm.trans hfn)).symm
      exact ⟨by kernel_rfl, fun j t ht => by
        rw [Tryd.params8] at ht
        match j, ht with
        | 0, ht =>
          obtain rfl : t = 46 := (Option.some.inj ht).symm
          show Program.wantsStandIn _ _ = false
          kernel_rfl
        | 1, ht =>
          obtain rfl : t = 46 := (Option.some.inj ht).symm
          show Program.wantsStandIn _ _ = false
          kernel_rfl
        | 2, ht =>
          obtain rfl : t = 57 := (Option.some.inj ht).symm
          show Program.wantsStandIn _ _ = false
          kernel_rfl⟩)
    (by kernel_rfl)
#print axioms kindSchemas_card
end Go.Proofs.YthdejilihaombaaDoor
