/- YtgbafmjgfbgeoaaDoor: KindFinds answers true: the row and its tied card. -/
import Derived.Test.YtgbafmjgfbgeoaaDoorW17
import Derived.Test.YtgbafmjgfbgeoaaDoorW28
import Derived.Test.YtgbafmjgfbgeoaaDoorW64
import Derived.Carry
namespace Go.Proofs.YtgbafmjgfbgeoaaDoor
open Go Go.K Go.ChangeShapes Go.WideShapes Go.ChangeAt Go.RowKit
set_option maxRecDepth 100000
set_option linter.unusedVariables false
set_option linter.unusedSimpArgs false
set_option maxHeartbeats 2000000
theorem ints_of {H : Type} {enc : TypeId × Value → H} {w : World} {spare : Nat → Bool} {held : Bool} {n : Nat} {cs : List Value} {x : DataW H × List MemPlace} (h : DataW.trod enc Tryd.prog w 0 spare held n 26 cs = some x) :
    ∃ a ls c, cs = [.slice a (List.length ls) c] ∧ ls.length ≤ c ∧ c ≤ 9223372036854775807 ∧ IntsAt w a ls := by
  obtain ⟨a, len, cap, rfl, hl, hc, rfl | ⟨b, off, n', rfl, hb, rfl, hall⟩⟩ := slice_at Tryd.underlying26 cells_is.2.1 (by omega) h
  · exact ⟨a, [], cap, rfl, hl, hc, .inl rfl⟩
  · obtain ⟨ls, hls, hp⟩ := exists_list (α := Int) len (p := fun i s => At w b (off + i) [i64 s]) (fun i hi => by
      obtain ⟨cs', y, h1, h2, h3⟩ := hall i hi
      obtain ⟨v0, rfl⟩ : ∃ v0, cs' = [v0] := by
        match cs', h2 with
        | [v0], _ => exact ⟨v0, rfl⟩
      obtain ⟨k, rfl⟩ := int_of h3
      exact ⟨k, by simpa using h1⟩)
    subst hls
    exact ⟨_, ls, cap, rfl, hl, hc, .inr ⟨b, off, rfl, hp⟩⟩
theorem ways_of {H : Type} {enc : TypeId × Value → H} {w : World} {spare : Nat → Bool} {held : Bool} {n : Nat} {cs : List Value} {x : DataW H × List MemPlace} (h : DataW.trod enc Tryd.prog w 0 spare held n 45 cs = some x) :
    ∃ a ls c, cs = [.slice a (List.length ls) c] ∧ ls.length ≤ c ∧ c ≤ 9223372036854775807 ∧ WaysAt w w.heap.size a ls := by
  obtain ⟨a, len, cap, rfl, hl, hc, rfl | ⟨b, off, n', rfl, hb, rfl, hall⟩⟩ := slice_at (sz := 1) Tryd.underlying45 (by kernel_rfl) (by omega) h
  · exact ⟨a, [], cap, rfl, hl, hc, .inl rfl⟩
  · obtain ⟨ls, hls, hp⟩ := exists_list (α := List Int) len (p := fun i p => ∃ pa pc, At w b (off + i) [.slice pa (List.length p) pc] ∧ IntsAt w pa p ∧ p.length ≤ 9223372036854775807) (fun i hi => by
      obtain ⟨cs', y, h1, h2, h3⟩ := hall i hi
      obtain ⟨pa, p, pc, rfl, h4, h5, h6⟩ := ints_of h3
      exact ⟨p, pa, pc, by simpa using h1, h6, by omega⟩)
    subst hls
    exact ⟨_, ls, cap, rfl, hl, hc, .inr ⟨b, off, rfl, hb, hp⟩⟩
theorem kindFinds_met (os : Os) (args : Array Value) : laidMetH Tryd.prog Rows.kindFindsRow.laid ((World.doorLaid Tryd.prog 400 os).forCall (fun _ _ => 0) ⟨#[], args, []⟩).memory :=
  laidMetH_of_parts3 (fuel := 8) (laidMet_of_run' 8 (by kernel_rfl) (by kernel_rfl)) (by kernel_rfl) (by kernel_rfl)
theorem kindFinds_lifted (os : Os) (started : os.Started) (H : Type) (enc : TypeId × Value → H) :
    ReturnsInHanded {} Tryd.checked os 4 .any (fun w args => (Rows.kindFindsSpec.pre enc Tryd.prog Tryd.f4 [] false w args ∧ laidMetH Tryd.prog Rows.kindFindsRow.laid w) ∧ sizedMet enc Tryd.prog Tryd.f4 (OpenSpec.ofChange Rows.kindFindsSpec) false w args)
      (Rows.kindFindsSpec.post enc Tryd.prog Tryd.f4 false true false false) := by
  refine returnsInHanded_of_change_and (C := Tryd.checked) (X := fun w _ => laidMetH Tryd.prog Rows.kindFindsRow.laid w) (fun _ _ _ hh h => h.of_heap hh) own started (by kernel_rfl) Tryd.func4
    (ChangeSpec.witness_shaped (enc := enc) (C := Tryd.checked) (os := os) (X := fun w _ => laidMetH Tryd.prog Rows.kindFindsRow.laid w) false (World.doorLaid Tryd.prog 400 os) #[.agg #[.slice none 0 0, .slice none 0 0], .slice none 0 0] 8 rfl (World.shaped_of_RefB (by kernel_rfl) (by kernel_rfl)) (by kernel_rfl) (by kernel_rfl) (by kernel_rfl) (kindFinds_met os _)) ?_
  intro W base args ds gs before hval0 hW _ _ hL _
  have hW' := hW
  obtain ⟨p, q, hA0, hV, rfl, hfz, hnd⟩ := hW
  have hA : DataW.TrodAll enc Tryd.prog W 0 (fun _ => true) true Tryd.f4.params.toList args.toList ds p := hA0
  rw [Tryd.params4] at hA
  obtain ⟨v0, v1, d0, d1, p0, p1, hargs, rfl, rfl, h0, h1⟩ := trodAll_two hA
  subst hargs
  obtain ⟨rfl, rfl⟩ := trodVars_none hV
  clear hA0 hA
  simp only [List.append_nil] at hW'
  have h0k := h0
  have h1k := h1
  obtain ⟨n0, h0⟩ := h0
  obtain ⟨n1, h1⟩ := h1
  obtain ⟨⟨l, nt⟩, fa, fc, na, nc, e0, hs0⟩ := schema_of h0
  obtain ⟨sa, ws, sc, e1, hl, hc, hn⟩ := ways_of h1
  obtain ⟨cs0, rfl, _⟩ := okWide_struct Tryd.underlying25 (hval0 0 _ _ (by rw [Tryd.params4]; rfl) rfl)
  obtain ⟨a1, n1', c1, rfl⟩ := okWide_slice Tryd.underlying45 (hval0 1 _ _ (by rw [Tryd.params4]; rfl) rfl)
  obtain rfl : cs0 = #[.slice fa l.length fc, .slice na nt.length nc] := by cases cs0; simpa [Value.cells] using e0
  simp only [Value.cells, List.cons.injEq, Value.slice.injEq, and_true] at e1
  obtain ⟨rfl, rfl, rfl⟩ := e1
  refine (kindFinds_walk W (says_of_laid hL (by kernel_rfl) (by simp [Rows.kindFindsRow])) W.heap.size (Nat.le_refl _) fa l fc na nt nc hs0 _ ws _ hn (by omega)).mono fun e W' ⟨v, he, hsy, hv⟩ => ?_
  subst he; subst hv
  have hlt : ∀ x ∈ p0 ++ p1, x.block < W.heap.size := fun x hx => by simpa using hW'.lt x hx
  have hlt0 : ∀ x ∈ p0, x.block < W.heap.size := fun x hx => hlt x (by simp [hx])
  have hlt1 : ∀ x ∈ p1, x.block < W.heap.size := fun x hx => hlt x (by simp [hx])
  exact ⟨_, rfl, post_of_sy (pr := []) (pa := p0 ++ p1) (pv := []) hW' hsy (trodAll_cons_mk (shut_bool Tryd.underlying4 _) trodAll_mk0) (trodAll_mk2 (Below.trod (by kernel_rfl) (by kernel_rfl) (of_decide_eq_true (by kernel_rfl)) h0k hsy.below hlt0) (Below.trod (by kernel_rfl) (by kernel_rfl) (of_decide_eq_true (by kernel_rfl)) h1k hsy.below hlt1)) rfl⟩
theorem kindFinds_over : Rows.KindFindsSaid :=
  OpenClaim.holds_of_wide 4 Tryd.f4 rfl rfl rfl rfl rfl rfl rfl ⟨rfl, rfl, rfl, rfl, rfl⟩ rfl rfl rfl rfl rfl (by kernel_rfl) Tryd.func4 (by kernel_rfl)
    (of_decide_eq_true (by kernel_rfl)) (by unfold Func.isWrapper; first | (rw [if_pos (by decide +kernel)]; kernel_rfl) | (rw [if_neg (by decide +kernel)]; exact ⟨rfl, rfl⟩))
    (fun os started H enc _ => kindFinds_lifted os started H enc)
theorem kindFinds_card : Rows.KindFindsCardSaid :=
  Claim7.holds_tied_plain_at .later [] [.data, .data, .data, .data] true (true, "64e1d29137e5a844843c0a94cec11e763b51a9b2d7558ebf1c83343453fc3316") false
    kindFinds_over (fun _ h => by cases h) (by kernel_rfl) (fun _ h => by cases h) kindFinds_row_tie rfl ⟨rfl, rfl⟩ (by kernel_rfl) rfl
    (fun f fn hf hfn => by
      obtain rfl : f = 4 := Option.some.inj ((show Tryd.prog.funcNamed "colonnade/colonnadelaw03.KindFinds" = some 4 by kernel_rfl).symm.trans hf) |>.symm
      obtain rfl : fn = Tryd.f4 := (Option.some.inj (Tryd.func4.symm.trans hfn)).symm
      exact ⟨by kernel_rfl, fun j t ht => by
        rw [Tryd.params4] at ht
        match j, ht with
        | 0, ht =>
          obtain rfl : t = 25 := (Option.some.inj ht).symm
          show Program.wantsStandIn _ _ = false
          kernel_rfl
        | 1, ht =>
          obtain rfl : t = 45 := (Option.some.inj ht).symm
          show Program.wantsStandIn _ _ = false
          kernel_rfl⟩)
    (by kernel_rfl)
#print axioms kindFinds_card
end Go.Proofs.YtgbafmjgfbgeoaaDoor
