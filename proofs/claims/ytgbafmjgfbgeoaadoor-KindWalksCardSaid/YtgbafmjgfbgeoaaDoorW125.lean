/- YtgbafmjgfbgeoaaDoor: KindWalks answers true: the row and its tied card. -/
import Derived.Test.YtgbafmjgfbgeoaaDoorW17
import Derived.Test.YtgbafmjgfbgeoaaDoorW28
import Derived.Test.YtgbafmjgfbgeoaaDoorW123
import Derived.Carry
namespace Go.Proofs.YtgbafmjgfbgeoaaDoor
open Go Go.K Go.ChangeShapes Go.WideShapes Go.ChangeAt Go.RowKit
set_option maxRecDepth 100000
set_option linter.unusedVariables false
set_option linter.unusedSimpArgs false
set_option maxHeartbeats 2000000
theorem stops_of {H : Type} {enc : TypeId × Value → H} {w : World} {spare : Nat → Bool} {held : Bool} {n : Nat} {v : Value} {x : DataW H × List MemPlace} (h : DataW.trod enc Tryd.prog w 0 spare held n 26 [v] = some x) :
    ∃ a st c, v = .slice a (List.length st) c ∧ st.length ≤ c ∧ c ≤ 9223372036854775807 ∧ IntsAt w a st ∧ (a = none → st = []) ∧ (∀ q ∈ st, -9223372036854775808 ≤ q ∧ q < 9223372036854775808) ∧ (st = [] ∨ ∃ k ∈ x.1.weights Tryd.prog 26, st.length * 8 ≤ k) := by
  rcases DataW.trod_slice Tryd.underlying26 h with ⟨he, _⟩ | ⟨a0, len, cap0, elems, rest, n', _, he, hx, _, _, _, hel, _⟩
  · simp only [List.cons.injEq, and_true] at he
    exact ⟨none, [], 0, he, Nat.le_refl _, by omega, .inl rfl, fun _ => rfl, by simp, .inl rfl⟩
  simp only [List.cons.injEq, and_true] at he
  have hwts : len = 0 ∨ ∃ k ∈ x.1.weights Tryd.prog 26, len * 8 ≤ k := by
    refine .inr ⟨(elems.length + rest.length) * Tryd.prog.bytesOf 3, ?_, ?_⟩
    · rw [hx, DataW.weights, Tryd.underlying26]
      simp
    · rw [show Tryd.prog.bytesOf 3 = 8 from by kernel_rfl, ← hel]
      exact Nat.mul_le_mul_right _ (Nat.le_add_right _ _)
  obtain ⟨a, len2, cap, he2, hl, hc, h0 | ⟨b, off, n2, hab, hb, rfl, hall⟩⟩ := slice_at Tryd.underlying26 cells_is.2.1 (by omega) h
  · simp only [List.cons.injEq, and_true] at he2
    subst h0
    refine ⟨a, [], cap, he2, Nat.zero_le _, hc, .inl rfl, fun _ => rfl, by simp, .inl rfl⟩
  · simp only [List.cons.injEq, and_true] at he2
    have hll : len2 = len := by rw [he] at he2; injection he2 with _ h2 _; exact h2.symm
    obtain ⟨ls, hls, hp⟩ := exists_list (α := Int) len2 (p := fun i s => At w b (off + i) [i64 s] ∧ -9223372036854775808 ≤ s ∧ s < 9223372036854775808) (fun i hi => by
      obtain ⟨cs', y, h1, h2, h3⟩ := hall i hi
      obtain ⟨v0, rfl⟩ : ∃ v0, cs' = [v0] := by
        match cs', h2 with
        | [v0], _ => exact ⟨v0, rfl⟩
      obtain ⟨k, e, _, hw⟩ := DataW.trod_int Tryd.underlying3 h3
      simp only [List.cons.injEq, and_true] at e
      have e1 : IntKind.i64.min = -9223372036854775808 := rfl
      have e2 : IntKind.i64.max = 9223372036854775807 := rfl
      simp only [Lit.wf, Bool.and_eq_true, decide_eq_true_eq, e1, e2] at hw
      subst e
      exact ⟨k, by simpa using h1, hw.1, by omega⟩)
    subst hls
    refine ⟨a, ls, cap, he2, hl, hc, .inr ⟨b, off, hab, fun i q hq => (hp i q hq).1⟩, (fun h => by rw [h] at hab; cases hab), fun q hq => ?_, ?_⟩
    · obtain ⟨i, hi⟩ := List.mem_iff_getElem?.1 hq
      exact (hp i q hi).2
    · rw [hll]
      rcases hwts with h | h
      · exact .inl (List.eq_nil_of_length_eq_zero (by omega))
      · exact .inr h
theorem kindWalks_met (os : Os) (args : Array Value) : laidMetH Tryd.prog Rows.kindWalksRow.laid ((World.doorLaid Tryd.prog 400 os).forCall (fun _ _ => 0) ⟨#[], args, []⟩).memory :=
  laidMetH_of_parts3 (fuel := 8) (laidMet_of_run' 8 (by kernel_rfl) (by kernel_rfl)) (by kernel_rfl) (by kernel_rfl)
theorem kindWalks_lifted (os : Os) (started : os.Started) (H : Type) (enc : TypeId × Value → H) :
    ReturnsInHanded {} Tryd.checked os 3 .any (fun w args => (Rows.kindWalksSpec.pre enc Tryd.prog Tryd.f3 [] false w args ∧ laidMetH Tryd.prog Rows.kindWalksRow.laid w) ∧ sizedMet enc Tryd.prog Tryd.f3 (OpenSpec.ofChange Rows.kindWalksSpec) false w args)
      (Rows.kindWalksSpec.post enc Tryd.prog Tryd.f3 false true false false) := by
  refine returnsInHanded_of_change_and (C := Tryd.checked) (X := fun w _ => laidMetH Tryd.prog Rows.kindWalksRow.laid w) (fun _ _ _ hh h => h.of_heap hh) own started (by kernel_rfl) Tryd.func3
    (ChangeSpec.witness_shaped (enc := enc) (C := Tryd.checked) (os := os) (X := fun w _ => laidMetH Tryd.prog Rows.kindWalksRow.laid w) false (World.doorLaid Tryd.prog 400 os) #[.agg #[.slice none 0 0, .slice none 0 0], .slice none 0 0] 8 rfl (World.shaped_of_RefB (by kernel_rfl) (by kernel_rfl)) (by kernel_rfl) (by kernel_rfl) (by kernel_rfl) (kindWalks_met os _)) ?_
  intro W base args ds gs before hval0 hW _ hwt hL _
  have hW' := hW
  obtain ⟨p, q, hA0, hV, rfl, hfz, hnd⟩ := hW
  have hA : DataW.TrodAll enc Tryd.prog W 0 (fun _ => true) true Tryd.f3.params.toList args.toList ds p := hA0
  rw [Tryd.params3] at hA
  obtain ⟨v0, v1, d0, d1, p0, p1, hargs, rfl, rfl, h0, h1⟩ := trodAll_two hA
  subst hargs
  obtain ⟨rfl, rfl⟩ := trodVars_none hV
  clear hA0 hA
  simp only [List.append_nil] at hW'
  have h0k := h0
  have h1k := h1
  obtain ⟨n0, h0⟩ := h0
  obtain ⟨n1, h1⟩ := h1
  obtain ⟨⟨l, nt⟩, fa, fc, na, nc, e0, hs0⟩ := schema_of h0
  obtain ⟨a1, n1', c1, rfl⟩ := okWide_slice Tryd.underlying26 (hval0 1 _ _ (by rw [Tryd.params3]; rfl) rfl)
  obtain ⟨sa, st, sc, e1, hl, hc, hn, hsn, hsr, hwk⟩ := stops_of (v := .slice a1 n1' c1) (by simpa [Value.cells] using h1)
  simp only [Value.slice.injEq] at e1
  obtain ⟨rfl, rfl, rfl⟩ := e1
  obtain ⟨cs0, rfl, _⟩ := okWide_struct Tryd.underlying25 (hval0 0 _ _ (by rw [Tryd.params3]; rfl) rfl)
  obtain rfl : cs0 = #[.slice fa l.length fc, .slice na nt.length nc] := by cases cs0; simpa [Value.cells] using e0
  have hsb : (st.length + 1) * 8 ≤ 140737488355328 := by
    rcases hwk with rfl | ⟨k, hk, hkl⟩
    · simp
    · rw [Tryd.params3] at hwt
      have hall := List.all_eq_true.1 hwt k (by
        simp only [List.cons_append, List.nil_append, DataW.weightsEach, List.mem_append]
        exact .inr (.inl hk))
      have hr : k ≤ 140737488351232 := of_decide_eq_true hall
      omega
  refine (kindWalks_walk W (says_of_laid hL (by kernel_rfl) (by simp [Rows.kindWalksRow])) W.heap.size (Nat.le_refl _) fa l fc na nt nc hs0 _ st _ hn hsn hl hc hsr hsb).mono fun e W' ⟨v, he, hsy, hv⟩ => ?_
  subst he; subst hv
  have hlt : ∀ x ∈ p0 ++ p1, x.block < W.heap.size := fun x hx => by simpa using hW'.lt x hx
  have hlt0 : ∀ x ∈ p0, x.block < W.heap.size := fun x hx => hlt x (by simp [hx])
  have hlt1 : ∀ x ∈ p1, x.block < W.heap.size := fun x hx => hlt x (by simp [hx])
  exact ⟨_, rfl, post_of_sy (pr := []) (pa := p0 ++ p1) (pv := []) hW' hsy (trodAll_cons_mk (shut_bool Tryd.underlying4 _) trodAll_mk0) (trodAll_mk2 (Below.trod (by kernel_rfl) (by kernel_rfl) (of_decide_eq_true (by kernel_rfl)) h0k hsy.below hlt0) (Below.trod (by kernel_rfl) (by kernel_rfl) (of_decide_eq_true (by kernel_rfl)) h1k hsy.below hlt1)) rfl⟩
theorem kindWalks_over : Rows.KindWalksSaid :=
  OpenClaim.holds_of_wide 3 Tryd.f3 rfl rfl rfl rfl rfl rfl rfl ⟨rfl, rfl, rfl, rfl, rfl⟩ rfl rfl rfl rfl rfl (by kernel_rfl) Tryd.func3 (by kernel_rfl)
    (of_decide_eq_true (by kernel_rfl)) (by unfold Func.isWrapper; first | (rw [if_pos (by decide +kernel)]; kernel_rfl) | (rw [if_neg (by decide +kernel)]; exact ⟨rfl, rfl⟩))
    (fun os started H enc _ => kindWalks_lifted os started H enc)
theorem kindWalks_card : Rows.KindWalksCardSaid :=
  Claim7.holds_tied_plain_at .later [] [.data, .data, .data, .data] true (true, "64e1d29137e5a844843c0a94cec11e763b51a9b2d7558ebf1c83343453fc3316") false
    kindWalks_over (fun _ h => by cases h) (by kernel_rfl) (fun _ h => by cases h) kindWalks_row_tie rfl ⟨rfl, rfl⟩ (by kernel_rfl) rfl
    (fun f fn hf hfn => by
      obtain rfl : f = 3 := Option.some.inj ((show Tryd.prog.funcNamed "colonnade/colonnadelaw03.KindWalks" = some 3 by kernel_rfl).symm.trans hf) |>.symm
      obtain rfl : fn = Tryd.f3 := (Option.some.inj (Tryd.func3.symm.trans hfn)).symm
      exact ⟨by kernel_rfl, fun j t ht => by
        rw [Tryd.params3] at ht
        match j, ht with
        | 0, ht =>
          obtain rfl : t = 25 := (Option.some.inj ht).symm
          show Program.wantsStandIn _ _ = false
          kernel_rfl
        | 1, ht =>
          obtain rfl : t = 26 := (Option.some.inj ht).symm
          show Program.wantsStandIn _ _ = false
          kernel_rfl⟩)
    (by kernel_rfl)
#print axioms kindWalks_card
end Go.Proofs.YtgbafmjgfbgeoaaDoor
