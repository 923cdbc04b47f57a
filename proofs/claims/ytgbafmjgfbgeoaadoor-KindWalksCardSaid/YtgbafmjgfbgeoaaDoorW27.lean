/- YtgbafmjgfbgeoaaDoor: walks, part 27: every Check and CheckField answers as the document does. -/
import Derived.Test.YtgbafmjgfbgeoaaDoorW14
import Derived.Test.YtgbafmjgfbgeoaaDoorW23
import Derived.Test.YtgbafmjgfbgeoaaDoorW26
namespace Go.Proofs.YtgbafmjgfbgeoaaDoor
open Go Go.K
set_option maxRecDepth 100000
set_option linter.unusedVariables false
set_option linter.unusedSimpArgs false
set_option maxHeartbeats 4000000
def toInts (l : List Nat) : List Int := l.map fun (n : Nat) => (n : Int)
theorem toInts_length (l : List Nat) : (toInts l).length = l.length := by simp [toInts]
theorem intsAt_row {w wb : World} {L M : Own} {pa : Option Addr} {pc : Nat} {l : List Nat} (hw : Sy wb L w) (hM : ∀ p ∈ M, p ∈ L) (h : RowIn M 3 (.slice pa l.length pc) l.length (ints l)) : IntsAt w pa (toInts l) := by
  obtain ⟨_, ⟨h1, h2⟩ | ⟨b, cap, cs, h1, h2, h3, h4, h5, h6⟩⟩ := h
  · exact .inl (List.eq_nil_of_length_eq_zero (by rw [toInts_length]; exact h2))
  · injection h1 with he1 he2 he3
    subst he1; subst he3
    refine .inr ⟨b, 0, rfl, fun i n hi => At.of_own hw (hM _ h2) ?_⟩
    have h7 : (ints l)[i]? = some (i64 n) := by
      simp only [toInts, List.getElem?_map] at hi
      simp only [ints, List.getElem?_map]
      cases hx : l[i]? with
      | none => rw [hx] at hi; cases hi
      | some k => rw [hx] at hi; cases hi; rfl
    rw [← h6, List.getElem?_take] at h7
    split at h7
    · rename_i hlt
      simp only [List.length_singleton]
      rw [Nat.zero_add, List.take_one, List.head?_drop, h7]
      rfl
    · cases h7
theorem intsAt_tail {w wb : World} {L M : Own} {pa : Option Addr} {pc : Nat} {l : List Nat} (hw : Sy wb L w) (hM : ∀ p ∈ M, p ∈ L)
    (h : pa = none ∧ pc = 0 ∧ l = [] ∨ ∃ b cap cs, pa = some ⟨b, if cap = 1 then 0 else 1, none⟩ ∧ pc = cap - 1 ∧ (b, .cells cs 3 (0, 0)) ∈ M ∧ RowIn [(b, .cells cs 3 (0, 0))] 3 (.slice (some ⟨b, 0, none⟩) l.length cap) l.length (ints l)) : IntsAt w pa (toInts l.tail) := by
  rcases h with ⟨_, _, rfl⟩ | ⟨b, cap, cs, rfl, _, hm, hrow⟩
  · exact .inl rfl
  · rcases Nat.lt_or_ge 1 l.length with h1 | h1
    · have hcap : ¬ cap = 1 := by
        obtain ⟨_, ⟨h2, _⟩ | ⟨b', cap', cs', h2, _, h3, _⟩⟩ := hrow
        · cases h2
        · injection h2 with _ _ e; omega
      rw [if_neg hcap]
      rcases intsAt_row (M := [(b, .cells cs 3 (0, 0))]) hw (fun p hp => by rw [List.mem_singleton.1 hp]; exact hM _ hm) hrow with h | ⟨b', off, he, h⟩
      · have := congrArg List.length h
        rw [toInts_length] at this
        simp only [List.length_nil] at this
        omega
      · cases he
        refine .inr ⟨b, 1, rfl, fun i n hi => ?_⟩
        have h4 := h (i + 1) n (by
          simp only [toInts, List.getElem?_map, List.getElem?_tail] at hi ⊢
          exact hi)
        rw [show 1 + i = 0 + (i + 1) by omega]
        exact h4
    · refine .inl (List.eq_nil_of_length_eq_zero ?_)
      rw [toInts_length, List.length_tail]; omega
abbrev SchT := List Fld × List NoteT
/-- A list of schemas in memory, below lo. -/
def SchsAt (w : World) (lo : Nat) (a : Option Addr) (ls : List SchT) : Prop := ls = [] ∨ ∃ b off, a = some ⟨b, off, none⟩ ∧ b < lo ∧ ∀ i x, ls[i]? = some x → ∃ fa fc na nc, At w b (off + i * 2) [.slice fa x.1.length fc, .slice na x.2.length nc] ∧ SchAt w lo fa x.1 fc na x.2 nc
end Go.Proofs.YtgbafmjgfbgeoaaDoor
