/- YtgbafmjgfbgeoaaDoor: the walk calculus, part Kq: proved rules by which the walks of this seat are made. -/
import Derived.Test.YtgbafmjgfbgeoaaDoorKo
import Derived.Deep.OwnRows
import Derived.Laws.CopyRow

namespace Go.K
open Go
set_option linter.unusedVariables false
set_option linter.unusedSimpArgs false
variable {wb : World} {L : Own} {P : Program}
theorem made_cells (z : Value) (n : Nat) : madeCells #[z] n = (List.replicate n z).toArray := by
  apply Array.toList_inj.1
  simp only [madeCells, Array.toList_map, Array.toList_range, List.toList_toArray]
  apply List.ext_getElem?
  intro i
  rw [List.getElem?_map, List.getElem?_replicate]
  by_cases h : i < n
  · simp [h, Nat.mod_one]
  · simp [h]
/-- make([]T, n), n known. -/
theorem makeX {t e : TypeId} {z : Value} {bytes n : Nat} {K : Value → World → Own → Prop} (kl kc : IntKind) (ht : P.underlying t = some (.slice e)) (hi : (P.info? e).map (fun i => (i.zero, i.size, i.bytes)) = some (some z, 1, bytes)) (hz : z.cells = #[z]) (hb : bytes * n ≤ 281474976710656) (h63 : n ≤ 9223372036854775807)
    (h : NewX wb L (.cells (List.replicate n z).toArray e (0, 0)) (tag fun b L => K (.slice (some ⟨b, 0, none⟩) n n) wb L)) : ValX P (Instr.makeSlice t (.int kl (n : Int)) (.int kc (n : Int))) wb L (tag K) :=
  valX_new (f := fun b => .slice (some ⟨b, 0, none⟩) n n) (o := .cells (List.replicate n z).toArray e (0, 0)) (fun w => by
    rw [run_make_row' t e z bytes ht hi hz kl kc n hb h63 w, made_cells]) h
/-- copy(d, s): d a row of one's own from its head, s a row that lies among what is owned, or nil; d has room for all. -/
theorem copyX {t ty e : TypeId} {b n dl : Nat} {cs xs : List Value} {v : Value} {L0 : Own} {K : Value → World → Own → Prop} (hu : P.underlying t = some (.slice e)) (hs : (P.info? e).map (·.size) = some 1) (hn : n ≤ dl) (hcs : dl ≤ cs.length)
    (hv : RowIn L0 e v n xs) (h1 : ∀ u ∈ xs, u.oneCell' = true) (hK : ∀ u, K u wb ((b, .cells (xs ++ cs.drop n).toArray e (0, 0)) :: L0)) :
    ValX P (Builtin.copy_ #[t, t] ty #[.slice (some ⟨b, 0, none⟩) dl dl, v]) wb ((b, .cells cs.toArray e (0, 0)) :: L0) (tag K) := by
  intro w hw
  obtain ⟨hxn, ⟨rfl, hn0⟩ | ⟨b', cap, cs', rfl, hm, h2, h3, h4, h5⟩⟩ := hv
  · have hx0 : xs = [] := List.eq_nil_of_length_eq_zero (by omega)
    subst hx0; subst hn0
    refine ⟨_, w, wb, _, run_copy_nil P w t t ty e ⟨b, 0, none⟩ dl dl hu (by rw [hs]; rfl), hw, by simpa using hK _⟩
  · have hbo := hw.own b _ (List.mem_cons_self ..)
    have hsrc : ∀ j u, xs[j]? = some u → w.cell? ((⟨b', 0, none⟩ : Addr).add j) = some u := fun j u hj => CanRead.of_own (wb := wb) (L := (b, .cells cs.toArray e (0, 0)) :: L0) (.tail _ hm) hxn h5 w hw j u hj
    have hrun := run_copy_row (P := P) w t t ty e b 0 dl dl ⟨b', 0, none⟩ n cap cs.toArray e xs hu hs hbo (by rw [hxn]; exact (Nat.min_eq_left hn).symm) hsrc (by simp; omega) h1
    refine ⟨_, _, wb, _, hrun, ?_, hK _⟩
    have h6 := hw.set (i := 0) (b := b) (o := .cells cs.toArray e (0, 0)) (.cells (xs ++ cs.drop n).toArray e (0, 0)) (by simp)
    simp only [List.set_cons_zero] at h6
    have h7 : w.setRow b (cs.toArray.toList.take 0 ++ xs ++ cs.toArray.toList.drop (0 + xs.length)).toArray = { w with heap := w.heap.setIfInBounds b (.cells (xs ++ cs.drop n).toArray e (0, 0)) } := by
      unfold World.setRow
      congr 1
      apply Array.ext_getElem?
      intro j
      rw [Array.getElem?_modify, Array.getElem?_setIfInBounds]
      have hlt := (Array.getElem?_eq_some_iff.1 hbo).1
      split
      · rename_i hj; subst hj; rw [hbo]; simp [hxn, hlt]
      · rfl
    rw [h7]
    exact h6
theorem RowO.overs {e : TypeId} {size n : Nat} {L' M : Own} {v : Value} {xs : List Value} (ps : Own) (h : RowO wb e size L' M v n xs) : ∃ L'', RowO wb e size L'' (ps ++ M) v n xs ∧ ∀ w, Sy wb (ps ++ L') w → Sy wb L'' w := by
  obtain ⟨h0, ⟨h1, h2, h3⟩ | ⟨b, cap, cs, h1, h2, h3⟩⟩ := h
  · subst h3; exact ⟨ps ++ L', ⟨h0, .inl ⟨h1, h2, rfl⟩⟩, fun w hw => hw⟩
  · subst h2; exact ⟨_, ⟨h0, .inr ⟨b, cap, cs, h1, rfl, h3⟩⟩, fun w hw => hw.perm List.perm_middle⟩
theorem RowO.is_slice {e : TypeId} {size n : Nat} {L' M : Own} {v : Value} {xs : List Value} (h : RowO wb e size L' M v n xs) : ∃ a c, v = .slice a n c := by
  obtain ⟨h0, ⟨h1, h2, h3⟩ | ⟨b, cap, cs, h1, h2, h3⟩⟩ := h
  · subst h2; exact ⟨none, 0, h1⟩
  · exact ⟨_, cap, h1⟩
theorem RowIn.is_slice {e : TypeId} {n : Nat} {M : Own} {v : Value} {xs : List Value} (h : RowIn M e v n xs) : ∃ a c, v = .slice a n c := by
  obtain ⟨h0, ⟨h1, h2⟩ | ⟨b, cap, cs, h1, h2⟩⟩ := h
  · subst h2; exact ⟨none, 0, h1⟩
  · exact ⟨_, cap, h1⟩
theorem Stab.of {Lq : Own} (h : Lq.Sublist L) (hL : ∀ p ∈ L, wb.heap.size ≤ p.1) : Stab wb L Lq := fun w hw => hw.drop h (fun p hp => .inr (hL p hp))
end Go.K
