/- YtjkogfiidhjpcaaDoor: values and fields that are handed in, as they are read; utf8's tables as they are laid. -/
import Derived.Test.YtjkogfiidhjpcaaDoorW28
import Derived.Test.YtjkogfiidhjpcaaDoorW17
import Derived.Test.YtjkogfiidhjpcaaDoorW88
import Derived.Lib.LaidU8T
import Derived.Carry
namespace Go.Proofs.YtjkogfiidhjpcaaDoor
open Go Go.K Go.ChangeShapes Go.WideShapes Go.ChangeAt Go.RowKit
set_option maxRecDepth 100000
set_option linter.unusedVariables false
set_option linter.unusedSimpArgs false
set_option maxHeartbeats 4000000
section
variable {H : Type} {enc : TypeId × Value → H} {w : World} {spare : Nat → Bool} {held : Bool}
theorem cells_val : Tryd.prog.cellsOf 2 = 1 ∧ Tryd.prog.cellsOf 27 = 1 ∧ Tryd.prog.cellsOf 29 = 4 := by
  refine ⟨?_, ?_, ?_⟩ <;> kernel_rfl
theorem int64_of {n : Nat} {v : Value} {x : DataW H × List MemPlace} (h : DataW.trod enc Tryd.prog w 0 spare held n 2 [v] = some x) : ∃ k, v = i64 k ∧ -9223372036854775808 ≤ k ∧ k < 9223372036854775808 := by
  obtain ⟨k, e, _, hw⟩ := DataW.trod_int Tryd.underlying2 h
  simp only [List.cons.injEq, and_true] at e
  have e1 : IntKind.i64.min = -9223372036854775808 := rfl
  have e2 : IntKind.i64.max = 9223372036854775807 := rfl
  simp only [Lit.wf, Bool.and_eq_true, decide_eq_true_eq, e1, e2] at hw
  exact ⟨k, e, hw.1, by omega⟩
theorem value_in {n : Nat} {cs : List Value} {x : DataW H × List MemPlace} (h : DataW.trod enc Tryd.prog w 0 spare held n 29 cs = some x) :
    ∃ nu num tx v n' y, cs = [.bool nu, i64 num, str tx, v] ∧ (-9223372036854775808 ≤ num ∧ num < 9223372036854775808) ∧ tx.length ≤ 9223372036854775807 ∧ n = n' + 1 ∧ DataW.trod enc Tryd.prog w 0 spare held n' 27 [v] = some y := by
  obtain ⟨q1, q2, q3⟩ := cells_val
  obtain ⟨c1, c2, c3, _⟩ := cells_is
  obtain ⟨xs, n1, rfl, _, hl, hxl, hall⟩ := DataW.trod_struct Tryd.underlying29 h
  rw [q3] at hl
  obtain ⟨v0, v1, v2, v3, rfl⟩ : ∃ v0 v1 v2 v3, cs = [v0, v1, v2, v3] := by
    match cs, hl with
    | [v0, v1, v2, v3], _ => exact ⟨v0, v1, v2, v3, rfl⟩
  obtain ⟨x0, x1, x2, x3, rfl⟩ : ∃ x0 x1 x2 x3, xs = [x0, x1, x2, x3] := by
    match xs, hxl with
    | [x0, x1, x2, x3], _ => exact ⟨x0, x1, x2, x3, rfl⟩
  have f0 : DataW.trod enc Tryd.prog w 0 spare held n1 4 (List.take (Tryd.prog.cellsOf 4) (List.drop 0 [v0, v1, v2, v3])) = some x0 := hall 0 _ rfl
  have f1 : DataW.trod enc Tryd.prog w 0 spare held n1 2 (List.take (Tryd.prog.cellsOf 2) (List.drop 1 [v0, v1, v2, v3])) = some x1 := hall 1 _ rfl
  have f2 : DataW.trod enc Tryd.prog w 0 spare held n1 9 (List.take (Tryd.prog.cellsOf 9) (List.drop 2 [v0, v1, v2, v3])) = some x2 := hall 2 _ rfl
  have f3 : DataW.trod enc Tryd.prog w 0 spare held n1 27 (List.take (Tryd.prog.cellsOf 27) (List.drop 3 [v0, v1, v2, v3])) = some x3 := hall 3 _ rfl
  simp only [c1, c3, q1, q2, List.drop_zero, List.drop_succ_cons, List.take_succ_cons, List.take_zero] at f0 f1 f2 f3
  obtain ⟨nu, rfl⟩ := bool_of f0
  obtain ⟨num, rfl, g1, g2⟩ := int64_of f1
  obtain ⟨tx, rfl, g3⟩ := str_of f2
  exact ⟨nu, num, tx, v3, n1, x3, rfl, ⟨g1, g2⟩, g3, rfl, f3⟩
theorem RdV.of_get {lo b : Nat} (hb : b < lo) : ∀ (n off : Nat), (∀ i, i < n → ∃ f a c, At w b (off + i * 4) (Vl.cells f a c) ∧ VAt w lo f a c) → ∃ l, l.length = n ∧ RdV w lo (some ⟨b, off, none⟩) l
  | 0, off, _ => ⟨[], rfl, .nil _⟩
  | n + 1, off, h => by
    obtain ⟨f, a, c, h1, h2⟩ := h 0 (by omega)
    obtain ⟨l, hl, hr⟩ := RdV.of_get hb n (off + 4) (fun i hi => by
      obtain ⟨f, a, c, h1, h2⟩ := h (i + 1) (by omega)
      exact ⟨f, a, c, by rw [show off + 4 + i * 4 = off + (i + 1) * 4 by omega]; exact h1, h2⟩)
    exact ⟨f :: l, by simp [hl], .cons hb h2.hc h2.hc2 h2.ht h2.hn (by simpa using h1) h2.hr hr⟩
theorem values_of : ∀ (n : Nat) {cs : List Value} {x : DataW H × List MemPlace}, DataW.trod enc Tryd.prog w 0 spare held n 27 cs = some x →
    ∃ a l c, cs = [.slice a (List.length l) c] ∧ l.length ≤ c ∧ c ≤ 9223372036854775807 ∧ RdV w w.heap.size a l := by
  intro n
  induction n using Nat.strongRecOn with
  | ind n ih =>
    intro cs x h
    obtain ⟨a, len, cap, rfl, hl, hc, rfl | ⟨b, off, n', rfl, hb, rfl, hall⟩⟩ := slice_at Tryd.underlying27 cells_val.2.2 (by omega) h
    · exact ⟨a, [], cap, rfl, hl, hc, .nil _⟩
    · obtain ⟨l, hll, hr⟩ := RdV.of_get (w := w) hb len off (fun i hi => by
        obtain ⟨cs', y, h1, _, h3⟩ := hall i hi
        obtain ⟨nu, num, tx, v, n2, y2, rfl, h4, h5, rfl, h6⟩ := value_in h3
        obtain ⟨a', l', c', h7, h8, h9, h10⟩ := ih n2 (by omega) h6
        simp only [List.cons.injEq, and_true] at h7
        subst h7
        exact ⟨.mk nu num tx l', a', c', h1, h10, h8, h9, h5, h4⟩)
      subst hll
      exact ⟨_, l, cap, rfl, hl, hc, hr⟩
/-- A value that is handed in. -/
theorem value_of {n : Nat} {cs : List Value} {x : DataW H × List MemPlace} (h : DataW.trod enc Tryd.prog w 0 spare held n 29 cs = some x) : ∃ v a c, cs = Vl.cells v a c ∧ VAt w w.heap.size v a c := by
  obtain ⟨nu, num, tx, v, n', y, rfl, h4, h5, rfl, h6⟩ := value_in h
  obtain ⟨a', l', c', h7, h8, h9, h10⟩ := values_of _ h6
  simp only [List.cons.injEq, and_true] at h7
  subst h7
  exact ⟨.mk nu num tx l', a', c', rfl, h10, h8, h9, h5, h4⟩
/-- A field that is handed in. -/
theorem field_in {n : Nat} {cs : List Value} {x : DataW H × List MemPlace} (h : DataW.trod enc Tryd.prog w 0 spare held n 26 cs = some x) : ∃ f a c, cs = Fld.cells f a c ∧ FlAt w w.heap.size f a c ∧ f.nm.length ≤ 9223372036854775807 := by
  obtain ⟨nm, nl, k, wd, id, ix, v, n', y, rfl, h4, rfl, h6⟩ := field_of h
  obtain ⟨a', l', c', h7, h8, h9, h10⟩ := fields_of _ h6
  simp only [List.cons.injEq, and_true] at h7
  subst h7
  exact ⟨.mk nm nl k wd id ix l', a', c', rfl, ⟨h10, h8, h9⟩, h4⟩
end
theorem u8_extra : U8Extra Tryd.prog laysValid_ren := ⟨by kernel_rfl, by kernel_rfl, by kernel_rfl, by kernel_rfl, by kernel_rfl, by kernel_rfl, by kernel_rfl⟩
theorem first_data : Rows.laid_unicode_utf8_first = Lib.firstData := by kernel_rfl
theorem accept_data : (Rows.laid_unicode_utf8_acceptRanges : DataW Unit) = Lib.acceptData := by kernel_rfl
theorem tabs_of_laid {W : World} {l : List (String × DataW Unit)} (h : laidMetH Tryd.prog l W) (hp : (l.all fun x => x.2.handleName?.isNone) = true) (h1 : ("unicode/utf8.first", Rows.laid_unicode_utf8_first) ∈ l) (h2 : ("unicode/utf8.acceptRanges", Rows.laid_unicode_utf8_acceptRanges) ∈ l) : TabsAt W := by
  rw [MakeChecks.laidMetH_plain _ _ _ hp] at h
  have k1 := Lib.laidMet.reads h h1
  have k2 := Lib.laidMet.reads h h2
  rw [first_data] at k1
  rw [accept_data] at k2
  exact utf8Tabs_of_readsT (ρ := laysValid_ren) (U8Types.of196 laysValid) u8_extra k1 k2
end Go.Proofs.YtjkogfiidhjpcaaDoor
