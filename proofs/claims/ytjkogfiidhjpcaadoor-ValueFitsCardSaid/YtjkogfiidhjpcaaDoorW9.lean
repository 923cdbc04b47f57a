/- YtjkogfiidhjpcaaDoor: walks, part 9: how many fields a schema has. -/
import Derived.Test.YtjkogfiidhjpcaaDoorW8
namespace Go.Proofs.YtjkogfiidhjpcaaDoor
open Go Go.K
set_option maxRecDepth 100000
set_option linter.unusedVariables false
set_option linter.unusedSimpArgs false
set_option maxHeartbeats 4000000
theorem nd_le : ∀ (d : Nat) (path : List Nat) (ind : Bool) (l : List Fld), (nd d path ind l).length ≤ (nd (d + 1) path ind l).length
  | 0, _, _, _ => by simp [nd]
  | d + 1, path, ind, l => by
    rw [nd, nd, List.length_flatMap, List.length_flatMap]
    have : ∀ (z : List (Fld × Nat)), (z.map fun p => ((⟨path ++ [p.2], l.take p.2, p.1, ind⟩ : FNode) :: nd d (path ++ [p.2]) (ind || p.1.k == 19) p.1.sub).length).sum ≤ (z.map fun p => ((⟨path ++ [p.2], l.take p.2, p.1, ind⟩ : FNode) :: nd (d + 1) (path ++ [p.2]) (ind || p.1.k == 19) p.1.sub).length).sum := by
      intro z
      induction z with
      | nil => simp
      | cons p z ih =>
        simp only [List.map_cons, List.sum_cons, List.length_cons] at ih ⊢
        have := nd_le d (path ++ [p.2]) (ind || p.1.k == 19) p.1.sub
        omega
    exact this _
theorem firstWrong_zero {ns : List FNode} (h : (faultN ns).1 = 0) : ∀ k, wrongAt ns k = 0 := by
  intro k
  rcases Nat.lt_or_ge k ns.length with hk | hk
  · cases hf : firstWrong ns with
    | none =>
      unfold firstWrong at hf
      rw [List.find?_eq_none] at hf
      simpa using hf k (List.mem_range.2 hk)
    | some j =>
      unfold firstWrong at hf
      have h2 := List.find?_some hf
      unfold faultN firstWrong at h
      rw [hf] at h
      simp only at h
      simp [h] at h2
  · unfold wrongAt; rw [List.getElem?_eq_none hk]
theorem checkP_zero {l : List Fld} {nt : List NoteT} (h : mayP l nt = true) : l.length ≤ 32 ∧ nt.length ≤ 16 ∧ nt.findIdx? longNote = none ∧ ∀ k, wrongAt (nd 65 [] false l) k = 0 := by
  unfold mayP at h
  have h0 : (checkP l nt).1 = 0 := by simpa using h
  unfold checkP at h0
  split at h0
  · cases h0
  · split at h0
    · cases h0
    · split at h0
      · cases h0
      · exact ⟨by omega, by omega, by assumption, firstWrong_zero h0⟩
theorem wrongN_many {pl : Nat} {ah : List Fld} {f : Fld} {ind : Bool} {k : Int} {S : List Int} (h : wrongN pl ah f ind k S = 0) : pl ≤ 64 ∧ k < 256 := by
  unfold wrongN at h
  split at h
  · cases h
  · split at h
    · cases h
    · omega
theorem few_nodes {l : List Fld} {nt : List NoteT} (h : mayP l nt = true) : (nd 65 [] false l).length ≤ 256 := by
  rcases Nat.lt_or_ge 256 (nd 65 [] false l).length with hlt | hge
  · have h1 := (checkP_zero h).2.2.2 256
    unfold wrongAt at h1
    rw [List.getElem?_eq_getElem hlt] at h1
    have := (wrongN_many h1).2
    omega
  · exact hge
def countP (l : List Fld) (nt : List NoteT) : Nat := if mayP l nt then (nd 64 [] false l).length else 0
end Go.Proofs.YtjkogfiidhjpcaaDoor
